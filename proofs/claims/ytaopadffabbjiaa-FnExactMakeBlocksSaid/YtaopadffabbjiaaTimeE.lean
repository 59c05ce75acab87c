/-
  Timetables: the list of a trip's times.
-/
import Derived.Test.YtaopadffabbjiaaTimeB
import Derived.Test.YtaopadffabbjiaaApp
namespace Go.Proofs.Ytaopadffabbjiaa
open Go Go.RowKit
set_option linter.unusedVariables false
set_option maxRecDepth 100000
/-- All times of a trip. -/
def timesOf (t : Timetable) (x : Trip) : List Int := (List.range ((lineAtT t x.Line).Runs.length + 1)).map fun k => timeAt t x k
theorem timesOf_len (t : Timetable) (x : Trip) : (timesOf t x).length = (lineAtT t x.Line).Runs.length + 1 := by simp [timesOf]
theorem timesOf_at {t : Timetable} {x : Trip} {k : Nat} (hk : k ≤ (lineAtT t x.Line).Runs.length) : (timesOf t x)[k]? = some (timeAt t x k) := by
  simp [timesOf, show k < (lineAtT t x.Line).Runs.length + 1 by omega]
theorem timesOf_take1 (t : Timetable) (x : Trip) : ((timesOf t x).take (0 + 1)).map (Value.int .i64) = [.int .i64 x.Start] := by
  rw [take_succ_at (timesOf_at (Nat.zero_le _))]
  simp [timeAt, runSum, sumI]
theorem ownsRow_later {w W : World} {base : Nat} {e : TypeId} {sz : Nat} {v : Value} {n : Nat} {xs : List Value} (h : w.ownsRow base e sz v n xs) (hl : Later w W) : W.ownsRow base e sz v n xs := by
  obtain ⟨hxs, h2⟩ := h
  refine ⟨hxs, ?_⟩
  rcases h2 with h2 | ⟨g, cap, cur, h1, hb, hg, h3⟩
  · exact .inl h2
  · exact .inr ⟨g, cap, cur, h1, hb, (show Blk W g e cur from Blk.later (show Blk w g e cur from hg) hl), h3⟩
/-- A slice of its own that has elements: where it lies, and its cells. -/
theorem ownsRow_at {w : World} {base : Nat} {e : TypeId} {sz : Nat} {v : Value} {n : Nat} {xs : List Value} (h : w.ownsRow base e sz v n xs) (hn : 0 < n) (hsz : 0 < sz) :
    ∃ g cap, v = .slice (some ⟨g, 0, none⟩) n cap ∧ base ≤ g ∧ n ≤ cap ∧ cap ≤ 9223372036854775807 ∧ (∀ W [Later w W] (j : Nat) (u : Value), xs[j]? = some u → W.cell? ⟨g, j, none⟩ = some u) := by
  obtain ⟨hxs, h2⟩ := h
  rcases h2 with ⟨rfl, rfl⟩ | ⟨g, cap, cur, rfl, hb, hg, hnc, hcm, hsz2, htk⟩
  · simp at hxs; omega
  refine ⟨g, cap, rfl, by simpa using hb, hnc, by simpa [maxLen] using hcm, fun W hW j u hu => ?_⟩
  rw [← htk, List.getElem?_take] at hu
  split at hu
  · have hB : Blk W g e cur := Blk.later (show Blk w g e cur from hg) hW
    rw [hB.cell]; simpa using hu
  · cases hu
set_option maxHeartbeats 400000 in
theorem impl_stopTimes {w0 w : World} {sA0 : Option Addr} {sn0 sc0 : Nat} {sA1 : Option Addr} {sn1 sc1 : Nat} {sA2 : Option Addr} {sn2 sc2 : Nat} {t : Timetable} (h : TimetableAt w0 sA0 sn0 sc0 sA1 sn1 sc1 sA2 sn2 sc2 t) (hl : Later w0 w) (nf : NetFacts t.Network) (x : Trip) (ti : TripIn t x) :
    Calls Try.prog 67 #[.agg #[.slice sA0 sn0 sc0, .slice sA1 sn1 sc1, .slice sA2 sn2 sc2], .agg #[.int .i64 x.Id, .int .i64 x.Line, .int .i64 x.Start]] w (RetO 1 oInt (timesOf t x) w) := by
  have lf := lineAtT_facts nf ti.line0 ti.line1
  have st := ti.start
  have hs0 := st.1
  have hs1 := st.2
  have HB0 : ∀ W [Later ((w.alloc (.cells #[.slice sA0 sn0 sc0, .slice sA1 sn1 sc1, .slice sA2 sn2 sc2] 41)).alloc (.cells #[.int .i64 x.Id, .int .i64 x.Line, .int .i64 x.Start] 99)) W] (j : Nat), W.cell? ⟨w.heap.size, j, none⟩ = #[.slice sA0 sn0 sc0, .slice sA1 sn1 sc1, .slice sA2 sn2 sc2][j]? := Later.boxes (t := 41) (fr := (0, 0)) ((heap_old (by simp; try omega)).trans (heap_new (by simp; try omega))); have HB1 : ∀ W [Later ((w.alloc (.cells #[.slice sA0 sn0 sc0, .slice sA1 sn1 sc1, .slice sA2 sn2 sc2] 41)).alloc (.cells #[.int .i64 x.Id, .int .i64 x.Line, .int .i64 x.Start] 99)) W] (j : Nat), W.cell? ⟨w.heap.size + 1, j, none⟩ = #[.int .i64 x.Id, .int .i64 x.Line, .int .i64 x.Start][j]? := Later.boxes (t := 99) (fr := (0, 0)) (heap_new (by simp; try omega)); obtain ⟨wb, hwb⟩ : ∃ wb : World, wb = ((w.alloc (.cells #[.slice sA0 sn0 sc0, .slice sA1 sn1 sc1, .slice sA2 sn2 sc2] 41)).alloc (.cells #[.int .i64 x.Id, .int .i64 x.Line, .int .i64 x.Start] 99)) := ⟨_, rfl⟩; haveI hbW : Later wb ((w.alloc (.cells #[.slice sA0 sn0 sc0, .slice sA1 sn1 sc1, .slice sA2 sn2 sc2] 41)).alloc (.cells #[.int .i64 x.Id, .int .i64 x.Line, .int .i64 x.Start] 99)) := (by rw [hwb]; exact Later.rfl_); haveI hww : Later w wb := (by rw [hwb]; infer_instance); rw [← hwb] at HB0; rw [← hwb] at HB1; have hbE := Lib.hid (congrArg (fun x : World => x.heap.size) hwb); clear hwb
  have hwb0 := hl.trans hww
  have hbE := hbE.out
  have hbs : wb.heap.size ≤ w.heap.size + 2 := by simp at hbE; omega
  have hbs2 : w.heap.size + 2 ≤ wb.heap.size := by simp at hbE; omega
  have H := Lib.hid h
  have HT := Lib.hid ti
  have LF := Lib.hid lf
  clear h ti lf st hbE
  go_enter Try.func67, Try.ntmps67
  go_wp2_with (go_at_call 66; refine (impl_lineOf H.out (hwb0.trans inferInstance) x HT.out.line0 HT.out.line1).mono ?_; rintro e w1 ⟨A0, n0, c0, A1, n1, c1, rfl, hy, L1⟩; have X1 := Later.trans (w := wb) inferInstance L1; have hfl := field_Line2)
  have HY := Lib.hid hy
  have hRl : Hid (n1 = (lineAtT t x.Line).Runs.length) := hy.l_Runs.len
  have hR := (hy.l_Runs.later hwb0)
  have hn5 : n1 ≤ 5 := by have := hRl.out; have := LF.out.runs; have := LF.out.stops; omega
  have HO1 : Hid (w1.ownsRow (w.heap.size + 2) 3 1 (.slice (some ⟨w.heap.size + 1 + 1, 0, none⟩) 1 1) 1 [.int .i64 x.Start]) := by
    have h0 := World.ownsRow_lit (base := w.heap.size + 2) (e := 3) (size := 1) ((w.alloc (.cells #[.slice sA0 sn0 sc0, .slice sA1 sn1 sc1, .slice sA2 sn2 sc2] 41)).alloc (.cells #[.int .i64 x.Id, .int .i64 x.Line, .int .i64 x.Start] 99)) #[.int .i64 x.Start] 1 (by simp) (by simp [maxLen]) rfl
    exact ownsRow_later (by simpa using h0) L1
  clear hy
  go_wp2_with fail
  go_loopw [5, 16] (fun ov i wr => ∃ k : Nat, k ≤ n1 ∧ i = .int .i64 k ∧ Hid (wr.ownsRow (w.heap.size + 2) 3 1 ov (k + 1) (((timesOf t x).take (k + 1)).map (Value.int .i64))) ∧ Later wb wr) (fun _ i _ => n1 - (intOf i).toNat)
  case atStart => exact ⟨0, by omega, rfl, by rw [timesOf_take1]; exact HO1, inferInstance⟩
  case round =>
    obtain ⟨k, hk, rfl, hown, hX⟩ := hrel
    by_cases hlt : k < n1
    · obtain ⟨b, o, r, rfl, hr, hcr, hri⟩ := Ints.at_ hR hlt
      obtain ⟨g, cap, rfl, hgb, hnc, hcm, hcell⟩ := ownsRow_at hown.out (by omega) (by omega)
      have hkl : k ≤ (lineAtT t x.Line).Runs.length := by have := hRl.out; omega
      have hck : ∀ W [Later wr W], W.cell? ⟨g, k, none⟩ = some (.int .i64 (timeAt t x k)) := fun W hW => @hcell W hW k _ (by rw [List.getElem?_map, List.getElem?_take_of_lt (by omega), timesOf_at hkl]; rfl)
      have hrb := LF.out.run r (List.mem_of_getElem? hr.out)
      have hb := runSum_bd LF.out k
      have HN : Hid (timeAt t x k + r = timeAt t x (k + 1)) := by show _ = _; unfold timeAt; rw [runSum_succ hr.out]; omega
      have hv0 : 0 ≤ timeAt t x k := by unfold timeAt; omega
      have hv1 : timeAt t x k ≤ 2099 := by unfold timeAt; omega
      have hr1 := hrb.1
      have hr2 := hrb.2
      have HT2 : Hid (((timesOf t x).take (k + 1 + 1)).map (Value.int .i64) = ((timesOf t x).take (k + 1)).map (Value.int .i64) ++ [.int .i64 (timeAt t x k + r)]) := by
        show _ = _
        rw [HN.out, take_succ_at (timesOf_at (show k + 1 ≤ (lineAtT t x.Line).Runs.length by have := hRl.out; omega)), List.map_append]; rfl
      clear hcell hrb hb hr hri
      go_wp2_with (at_builtin; refine wpList_app_B rfl _ _ 67 rfl Try.underlying67 infoInt rfl (by decide) (by decide) rfl (by exact hown.out) (inferInstance : Later wb wr) hbs (by have := hX.size; omega) rfl rfl (one_cell _ _) (by omega) ?_; intro v' w4 hown' hX')
      go_roundw
      case rel => exact ⟨k + 1, by omega, by go_num, by rw [HT2.out]; exact hown', inferInstance⟩
      case measure => simp [intOf]; omega
    · have HE : Hid ((timesOf t x).take (k + 1) = timesOf t x) := by show _ = _; rw [List.take_of_length_le (by rw [timesOf_len]; have := hRl.out; omega)]
      have HL : Hid (k + 1 = (timesOf t x).length) := by show _ = _; rw [timesOf_len]; have := hRl.out; omega
      go_wp2
      go_ret
      have hown2 := hown.out
      rw [HE.out, HL.out] at hown2
      obtain ⟨A, c, fp, rfl, ho, hnd, hlo⟩ := OSl.ints_of_own hown2 (fun y hy => by
        obtain ⟨j, hj, rfl⟩ := List.mem_map.1 hy
        have := runSum_bd LF.out j
        unfold timeAt I64
        omega)
      exact ⟨A, _, c, fp, rfl, ho, hnd, fun g hg => by have := hlo g hg; omega, hww.trans inferInstance⟩
end Go.Proofs.Ytaopadffabbjiaa
