/-
  Rosters: copies, and the turned roster.
-/
import Derived.Test.YtbkeccpjcmhhjaaCopyL
import Derived.Test.YtbkeccpjcmhhjaaRostF
namespace Go.Proofs.Ytbkeccpjcmhhjaa
open Go Go.RowKit
set_option linter.unusedVariables false
set_option maxRecDepth 100000
set_option maxHeartbeats 2000000 in
theorem impl_copyRoster {w0 w : World} {sA0 : Option Addr} {sn0 sc0 : Nat} {sA1 : Option Addr} {sn1 sc1 : Nat} {r : Roster} (h : RosterAt w0 sA0 sn0 sc0 sA1 sn1 sc1 r) (hl : Later w0 w) (ok : RosterFacts r) :
    Calls Try.prog 99 #[.agg #[.slice sA0 sn0 sc0, .int .i64 r.Rules.MinRest, .int .i64 r.Rules.MaxRow, .int .i64 r.Rules.MaxWeek, .slice sA1 sn1 sc1]] w (RetORoster r w) := by
  replace h := h.later hl
  have hS := h.l_Shifts
  have hP := h.l_Plan
  have hn0 : sn0 ≤ 1073741824 := by have := ok.shifts; have := hS.len; omega
  have hn1 : sn1 ≤ 1048576 := by have := ok.plan; have := hP.len; omega
  have HR : Hid (∀ (k : Nat) (x : List Int), r.Plan[k]? = some x → x.length ≤ 1048576) := fun k x hx => by
    have h1 := (ok.row k x hx).1
    have h2 := ok.days
    unfold days at h2
    omega
  have HRl := h.i_Rules_MinRest
  clear ok
  have HB0 : ∀ W [Later (w.alloc (.cells #[.slice sA0 sn0 sc0, .int .i64 r.Rules.MinRest, .int .i64 r.Rules.MaxRow, .int .i64 r.Rules.MaxWeek, .slice sA1 sn1 sc1] 32)) W] (j : Nat), W.cell? ⟨w.heap.size, j, none⟩ = #[.slice sA0 sn0 sc0, .int .i64 r.Rules.MinRest, .int .i64 r.Rules.MaxRow, .int .i64 r.Rules.MaxWeek, .slice sA1 sn1 sc1][j]? := Later.boxes (t := 32) (fr := (0, 0)) (heap_new (by simp; try omega))
  go_enter Try.func99, Try.ntmps99
  go_wp2
  have hB : Blk ((w.alloc (.cells #[.slice sA0 sn0 sc0, .int .i64 r.Rules.MinRest, .int .i64 r.Rules.MaxRow, .int .i64 r.Rules.MaxWeek, .slice sA1 sn1 sc1] 32)).alloc (.cells #[.slice none 0 0, .int .i64 0, .int .i64 0, .int .i64 0, .slice none 0 0] 32)) (w.heap.size + 1) 32 #[.slice none 0 0, .int .i64 0, .int .i64 0, .int .i64 0, .slice none 0 0] := heap_new (by simp)
  refine wp_region_held_drew (S := (fun w' => Later w w' ∧ Later (w.alloc (.cells #[.slice sA0 sn0 sc0, .int .i64 r.Rules.MinRest, .int .i64 r.Rules.MaxRow, .int .i64 r.Rules.MaxWeek, .slice sA1 sn1 sc1] 32)) w')) (by kernel_rfl) (by exact ⟨inferInstance, inferInstance⟩) (fun hHeld => ?_)
  refine wpAnyH_take (i := 0) (v := ?_) (by simp only [List.getElem?_toArray, List.getElem?_cons_zero] <;> rfl) (by kernel_rfl) (by kernel_rfl) (by kernel_rfl) (by exact fun _ _ _ h => h) (Or.inl ⟨by kernel_rfl, ?_⟩) (by assumption) ?_
  rotate_left
  · intro w' hSw; (try dsimp only at hSw); go_simp; try with_reducible rfl
  try simp only [Act.put, List.setIfInBounds_toArray, List.set_cons_zero, List.set_cons_succ]
  refine wpAnyH_take (i := 1) (v := ?_) (by simp only [List.getElem?_toArray, List.getElem?_cons_succ, List.getElem?_cons_zero] <;> rfl) (by kernel_rfl) (by kernel_rfl) (by kernel_rfl) (by exact fun _ _ _ h => h) (Or.inl ⟨by kernel_rfl, ?_⟩) (by assumption) ?_
  rotate_left
  · intro w' hSw; (try dsimp only at hSw); go_simp; try with_reducible rfl
  try simp only [Act.put, List.setIfInBounds_toArray, List.set_cons_zero, List.set_cons_succ]
  refine wpAnyH_take (i := 3) (v := ?_) (by simp only [List.getElem?_toArray, List.getElem?_cons_succ, List.getElem?_cons_zero] <;> rfl) (by kernel_rfl) (by kernel_rfl) (by kernel_rfl) (by exact fun _ _ _ h => h) (Or.inl ⟨by kernel_rfl, ?_⟩) (by assumption) ?_
  rotate_left
  · intro w' hSw; (try dsimp only at hSw); go_simp; try with_reducible rfl
  try simp only [Act.put, List.setIfInBounds_toArray, List.set_cons_zero, List.set_cons_succ]
  refine wpAnyH_take (i := 4) (v := ?_) (by simp only [List.getElem?_toArray, List.getElem?_cons_succ, List.getElem?_cons_zero] <;> rfl) (by kernel_rfl) (by kernel_rfl) (by kernel_rfl) (by exact fun _ _ _ h => h) (Or.inl ⟨by kernel_rfl, ?_⟩) (by assumption) ?_
  rotate_left
  · intro w' hSw; (try dsimp only at hSw); go_simp; try with_reducible rfl
  try simp only [Act.put, List.setIfInBounds_toArray, List.set_cons_zero, List.set_cons_succ]
  refine wpAnyH_take (i := 5) (v := ?_) (by simp only [List.getElem?_toArray, List.getElem?_cons_succ, List.getElem?_cons_zero] <;> rfl) (by kernel_rfl) (by kernel_rfl) (by kernel_rfl) (by exact fun _ _ _ h => h) (Or.inl ⟨by kernel_rfl, ?_⟩) (by assumption) ?_
  rotate_left
  · intro w' hSw; (try dsimp only at hSw); go_simp; try with_reducible rfl
  try simp only [Act.put, List.setIfInBounds_toArray, List.set_cons_zero, List.set_cons_succ]
  refine wpAnyH_take (i := 6) (v := ?_) (by simp only [List.getElem?_toArray, List.getElem?_cons_succ, List.getElem?_cons_zero] <;> rfl) (by kernel_rfl) (by kernel_rfl) (by kernel_rfl) (by exact fun _ _ _ h => h) (Or.inl ⟨by kernel_rfl, ?_⟩) (by assumption) ?_
  rotate_left
  · intro w' hSw; (try dsimp only at hSw); go_simp; try with_reducible rfl
  try simp only [Act.put, List.setIfInBounds_toArray, List.set_cons_zero, List.set_cons_succ]
  refine wpAnyH_ready (rs := [2]) (by kernel_rfl) (by simp) (AllReadyH.cons rfl (fun K hK => ?_) AllReadyH.nil)
  go_simp
  (go_at_call 193; refine (slices_CloneSpans hS inferInstance hn0).mono ?_; rintro e w2 ⟨A2, n2, c2, f2, rfl, o2, nd2, lo2, L2⟩; have hX2 := Later.trans (w := (w.alloc (.cells #[.slice sA0 sn0 sc0, .int .i64 r.Rules.MinRest, .int .i64 r.Rules.MaxRow, .int .i64 r.Rules.MaxWeek, .slice sA1 sn1 sc1] 32))) inferInstance L2; have hU2 := Later.trans (w := w) inferInstance L2; have hB2 := hB.drew.later L2)
  refine hK.out _ _ (by exact ⟨inferInstance, inferInstance⟩) (fun hHeld => ?_)
  try simp only [Act.put, List.setIfInBounds_toArray, List.set_cons_zero, List.set_cons_succ]
  refine wpAnyH_ready (rs := [7]) (by kernel_rfl) (by simp) (AllReadyH.cons rfl (fun K hK => ?_) AllReadyH.nil)
  go_simp
  (go_at_call 150; refine (impl_copyLists hP inferInstance hn1 HR.out).mono ?_; rintro e w3 ⟨A3, n3, c3, f3, rfl, o3, nd3, lo3, L3⟩; have hX3 := Later.trans (w := (w.alloc (.cells #[.slice sA0 sn0 sc0, .int .i64 r.Rules.MinRest, .int .i64 r.Rules.MaxRow, .int .i64 r.Rules.MaxWeek, .slice sA1 sn1 sc1] 32))) inferInstance L3; have hU3 := Later.trans (w := w) inferInstance L3; have hB3 := hB2.later L3)
  refine hK.out _ _ (by exact ⟨inferInstance, inferInstance⟩) (fun hHeld => ?_)
  try simp only [Act.put, List.setIfInBounds_toArray, List.set_cons_zero, List.set_cons_succ]
  refine wpAnyH_take (i := 8) (v := ?_) (by simp only [List.getElem?_toArray, List.getElem?_cons_succ, List.getElem?_cons_zero] <;> rfl) (by kernel_rfl) (by kernel_rfl) (by kernel_rfl) (by exact fun _ _ _ h => h) (Or.inl ⟨by kernel_rfl, ?_⟩) (by assumption) ?_
  rotate_left
  · intro w' hSw; (try dsimp only at hSw); go_simp; try with_reducible rfl
  try simp only [Act.put, List.setIfInBounds_toArray, List.set_cons_zero, List.set_cons_succ]
  refine wpAnyH_ready (rs := [9]) (by kernel_rfl) (by simp) (AllReadyH.cons rfl (fun K hK => ?_) AllReadyH.nil)
  have hcr := fun j => hB3.cell j
  have hfr := fun j => hB3.frozen j
  go_simp
  refine hK.out _ _ (by exact ⟨inferInstance, inferInstance⟩) (fun hHeld => ?_)
  try simp only [Act.put, List.setIfInBounds_toArray, List.set_cons_zero, List.set_cons_succ]
  refine wpAnyH_done (by kernel_rfl) ?_ _
  go_wp2
  have HF := ((((hB3.set_ 0 (.slice A2 n2 c2)).set_ 1 (.int .i64 r.Rules.MinRest)).set_ 2 (.int .i64 r.Rules.MaxRow)).set_ 3 (.int .i64 r.Rules.MaxWeek)).set_ 4 (.slice A3 n3 c3)
  have hr0 := (HF.cell 0).trans (show _ = some (.slice A2 n2 c2 : Value) from rfl)
  have hr1 := (HF.cell 1).trans (show _ = some (.int .i64 r.Rules.MinRest : Value) from rfl)
  have hr2 := (HF.cell 2).trans (show _ = some (.int .i64 r.Rules.MaxRow : Value) from rfl)
  have hr3 := (HF.cell 3).trans (show _ = some (.int .i64 r.Rules.MaxWeek : Value) from rfl)
  have hr4 := (HF.cell 4).trans (show _ = some (.slice A3 n3 c3 : Value) from rfl)
  have hb2 : w.heap.size + 1 ∉ f2 := fun hh => by have := lo2 _ hh; simp at this; omega
  have hb3 : w.heap.size + 1 ∉ f3 := fun hh => by have := lo3 _ hh; have := hB2.lt; omega
  have o2' := o2.later L3
  refine bodyPost_ret (v := .agg #[.slice A2 n2 c2, .int .i64 r.Rules.MinRest, .int .i64 r.Rules.MaxRow, .int .i64 r.Rules.MaxWeek, .slice A3 n3 c3]) (by simp [results, Try.results99, go_sem, hr0, hr1, hr2, hr3, hr4]) rfl ?_
  refine ⟨A2, n2, c2, A3, n3, c3, f2, f3, rfl, ⟨((((o2'.setc hb2 _ _).setc hb2 _ _).setc hb2 _ _).setc hb2 _ _).setc hb2 _ _, h.i_Rules_MinRest, h.i_Rules_MaxRow, h.i_Rules_MaxWeek, ((((o3.setc hb3 _ _).setc hb3 _ _).setc hb3 _ _).setc hb3 _ _).setc hb3 _ _⟩, nodup_app nd2 nd3 o2.lt lo3, fun g hg => ?_, inferInstance⟩
  rcases List.mem_append.1 hg with hg | hg
  · have := lo2 g hg; simp at this; omega
  · have := lo3 g hg; have := hU2.size; omega
end Go.Proofs.Ytbkeccpjcmhhjaa
