/-
  MakeBlocks: the program's best links, by what is left.
-/
import Derived.Test.YtaopadffabbjiaaLnkB
namespace Go.Proofs.Ytaopadffabbjiaa
open Go Go.RowKit
set_option linter.unusedVariables false
set_option maxRecDepth 100000
set_option linter.unusedSimpArgs false
theorem Touch.less {fp fq : List Nat} {w W : World} (h : Touch fp w W) (hs : ∀ g, g ∈ fp → g < w.heap.size → g ∈ fq) : Touch fq w W :=
  ⟨h.os, h.tape, h.output, h.size, fun k hk hn => h.block k hk fun h' => hn (hs k h' hk)⟩
theorem Touch.grown {w W : World} {b : Nat} (h : w.grownBy W (some b)) : Touch [b] w W :=
  ⟨h.os, h.tape, h.output, h.size, fun k hk hn => h.block k hk fun e => hn (by cases e; simp)⟩
def lkAt (t : Timetable) (f : Fleet) (r i u a : Nat) : Int × Int := ((List.range t.Trips.length).take a).foldl (lkStep (folT t f) (ddT t f) (lkT t f r) i u) (lkT t f r u)
theorem lkAt_zero {t : Timetable} {f : Fleet} {r i u : Nat} : lkAt t f r i u 0 = lkT t f r u := rfl
theorem lkAt_end {t : Timetable} {f : Fleet} {r i u : Nat} (h : i + (r + 1) = t.Trips.length) : lkAt t f r i u t.Trips.length = lkT t f (r + 1) u := by
  unfold lkAt lkT
  rw [List.take_of_length_le (by simp)]
  simp only [lk]
  rw [show t.Trips.length - (r + 1) = i by omega]
theorem lkAt_step {t : Timetable} {f : Fleet} {r i u a : Nat} (ha : a < t.Trips.length) : lkAt t f r i u (a + 1) = lkStep (folT t f) (ddT t f) (lkT t f r) i u (lkAt t f r i u a) a := by
  unfold lkAt
  rw [List.take_add_one, List.getElem?_range ha, List.foldl_append]
  rfl
theorem lkStep_no {t : Timetable} {f : Fleet} {r i u a : Nat} {c : Int × Int} (h : (aftV t f r i a u).2 = false ∨ ¬ lnkC (aftV t f r i a u).1 c < 0) : lkStep (folT t f) (ddT t f) (lkT t f r) i u c a = c := by
  unfold lkStep
  rw [if_neg]
  rintro ⟨h1, h2⟩
  unfold aftV at h
  rw [if_pos h1] at h
  rcases h with h | h
  · cases h
  · exact h ((lnkC_lt _ _).2 h2)
theorem lkStep_yes {t : Timetable} {f : Fleet} {r i u a : Nat} {c : Int × Int} (h1 : (aftV t f r i a u).2 = true) (h2 : lnkC (aftV t f r i a u).1 c < 0) : lkStep (folT t f) (ddT t f) (lkT t f r) i u c a = (aftV t f r i a u).1 := by
  unfold lkStep
  unfold aftV at h1 h2 ⊢
  by_cases hm : mayF (folT t f) u i a = true
  · rw [if_pos hm] at h2 ⊢
    rw [if_pos ⟨hm, (lnkC_lt _ _).1 h2⟩]
  · rw [if_neg hm] at h1; cases h1
theorem best_zero {w0 w2 : World} {sA0 : Option Addr} {sn0 sc0 : Nat} {sA1 : Option Addr} {sn1 sc1 : Nat} {sA2 : Option Addr} {sn2 sc2 : Nat} {t : Timetable} (h : TimetableAt w0 sA0 sn0 sc0 sA1 sn1 sc1 sA2 sn2 sc2 t) {qA0 : Option Addr} {qn0 qc0 : Nat} {f : Fleet} (h2 : FleetAt w2 qA0 qn0 qc0 f) (rf : RunFacts t f) {gx b : Nat} (hb0 : w0.heap.size ≤ b) (hb2 : w2.heap.size ≤ b) (hgb : gx ≠ b) : BestC t f w0 w2 #[.slice sA0 sn0 sc0, .slice sA1 sn1 sc1, .slice sA2 sn2 sc2, .slice qA0 qn0 qc0, .int .i64 f.Turn, .map (some b)] gx b 0 := by
  intro W iv uv i u cnt hiv huv hir hu hl0 hl2 hX hM hc
  subst hiv huv
  have hsn : sn2 = t.Trips.length := h.l_Trips.len
  obtain rfl : i = t.Trips.length := by omega
  subst hsn
  obtain ⟨Wa, hWa⟩ : ∃ Wa : World, Wa = W.alloc (.cells #[.int .i64 0, .int .i64 0] 153) := ⟨_, rfl⟩
  have hB : Blk Wa W.heap.size 153 #[.int .i64 0, .int .i64 0] := by rw [hWa]; exact Blk.new _ _ _
  haveI hLa : Later W Wa := by rw [hWa]; infer_instance
  have hXc : ∀ W' [Later W W'] (j : Nat), W'.cell? ⟨gx, j, none⟩ = (#[.slice sA0 sn0 sc0, .slice sA1 sn1 sc1, .slice sA2 t.Trips.length sc2, .slice qA0 qn0 qc0, .int .i64 f.Turn, .map (some b)] : Array Value)[j]? := fun W' hW' j => (hX.later hW').cell j
  have hBc : ∀ W' [Later Wa W'] (j : Nat), W'.cell? ⟨W.heap.size, j, none⟩ = (#[.int .i64 0, .int .i64 0] : Array Value)[j]? := fun W' hW' j => (hB.later hW').cell j
  have hBf : ∀ W' [Later Wa W'] (j : Nat), W'.frozen? ⟨W.heap.size, j, none⟩ = false := fun W' hW' j => (hB.later hW').frozen j
  rw [show lkT t f 0 u = (0, 0) from rfl]
  subst hWa
  go_enter Try.func101, Try.ntmps101
  go_wp2
  have HF := (hB.set_ 0 (.int .i64 (0))).set_ 1 (.int .i64 (0))
  have hr0 := (HF.cell 0).trans (show _ = some (.int .i64 (0) : Value) from rfl)
  have hr1 := (HF.cell 1).trans (show _ = some (.int .i64 (0) : Value) from rfl)
  refine bodyPost_ret (v := .agg #[.int .i64 (0), .int .i64 (0)]) (by simp [results, Try.results101, go_sem, hr0, hr1]) rfl ?_
  exact ⟨rfl, (hM.later inferInstance).mono (by omega), Touch.of_later inferInstance⟩
theorem best_succ {w0 w2 : World} {sA0 : Option Addr} {sn0 sc0 : Nat} {sA1 : Option Addr} {sn1 sc1 : Nat} {sA2 : Option Addr} {sn2 sc2 : Nat} {t : Timetable} (h : TimetableAt w0 sA0 sn0 sc0 sA1 sn1 sc1 sA2 sn2 sc2 t) {qA0 : Option Addr} {qn0 qc0 : Nat} {f : Fleet} (h2 : FleetAt w2 qA0 qn0 qc0 f) (rf : RunFacts t f) {gx b : Nat} (hb0 : w0.heap.size ≤ b) (hb2 : w2.heap.size ≤ b) (hgb : gx ≠ b) {r : Nat} (hbst : BestC t f w0 w2 #[.slice sA0 sn0 sc0, .slice sA1 sn1 sc1, .slice sA2 sn2 sc2, .slice qA0 qn0 qc0, .int .i64 f.Turn, .map (some b)] gx b r) (haft : AfterC t f w0 w2 #[.slice sA0 sn0 sc0, .slice sA1 sn1 sc1, .slice sA2 sn2 sc2, .slice qA0 qn0 qc0, .int .i64 f.Turn, .map (some b)] gx b r) : BestC t f w0 w2 #[.slice sA0 sn0 sc0, .slice sA1 sn1 sc1, .slice sA2 sn2 sc2, .slice qA0 qn0 qc0, .int .i64 f.Turn, .map (some b)] gx b (r + 1) := by
  intro W iv uv i u cnt hiv huv hir hu hl0 hl2 hX hM hc
  subst hiv huv
  have hsn : sn2 = t.Trips.length := h.l_Trips.len
  have hlen := rf.time.len
  subst hsn
  have hi : i < t.Trips.length := by omega
  have hdi : ¬ (i : Int) = (t.Trips.length : Int) := by omega
  have hd1 := (beqi_f hdi).1
  have hgx := hX.lt
  have hbW := hM.lt
  obtain ⟨Wa, hWa⟩ : ∃ Wa : World, Wa = W.alloc (.cells #[.int .i64 0, .int .i64 0] 153) := ⟨_, rfl⟩
  have hB : Blk Wa W.heap.size 153 #[.int .i64 0, .int .i64 0] := by rw [hWa]; exact Blk.new _ _ _
  haveI hLa : Later W Wa := by rw [hWa]; infer_instance
  have hXc : ∀ W' [Later W W'] (j : Nat), W'.cell? ⟨gx, j, none⟩ = (#[.slice sA0 sn0 sc0, .slice sA1 sn1 sc1, .slice sA2 t.Trips.length sc2, .slice qA0 qn0 qc0, .int .i64 f.Turn, .map (some b)] : Array Value)[j]? := fun W' hW' j => (hX.later hW').cell j
  obtain ⟨Wb, hWb⟩ : ∃ Wb : World, Wb = Wa.alloc (.cells #[.int .i64 i, .int .i64 u] 175) := ⟨_, rfl⟩
  have hKy : Blk Wb (W.heap.size + 1) 175 #[.int .i64 i, .int .i64 u] := by rw [hWb, hWa]; have h9 := Blk.new (W.alloc (.cells #[.int .i64 0, .int .i64 0] 153)) 175 #[.int .i64 i, .int .i64 u]; simpa using h9
  haveI hLb : Later Wa Wb := by rw [hWb]; infer_instance
  haveI hLw : Later W Wb := hLa.trans hLb
  have hBby := hB.later hLb
  have hKc : ∀ W' [Later Wb W'] (j : Nat), W'.cell? ⟨W.heap.size + 1, j, none⟩ = (#[.int .i64 i, .int .i64 u] : Array Value)[j]? := fun W' hW' j => (hKy.later hW').cell j
  obtain ⟨c0, d0, ok, hlook, hok⟩ := hM.look (i := i) (u := u) (by omega) hu
  have HM := Lib.hid hM
  have HX := Lib.hid hX
  have HBS := Lib.hid hbst
  have HAF := Lib.hid haft
  clear hM hX hbst haft
  cases ok with
  | true =>
    have e1 := hok rfl
    have e2 : memoF t f i u = lkT t f (r + 1) u := by unfold memoF; rw [show t.Trips.length - i = r + 1 by omega]
    rw [← e2, ← e1]
    clear e1 e2 hok
    go_enter Try.func101, Try.ntmps101
    go_wp2_with fail
    rw [← hWa, ← hWb]
    have hBc : ∀ W' [Later Wb W'] (j : Nat), W'.cell? ⟨W.heap.size, j, none⟩ = (#[.int .i64 0, .int .i64 0] : Array Value)[j]? := fun W' hW' j => (hBby.later hW').cell j
    have hBf : ∀ W' [Later Wb W'] (j : Nat), W'.frozen? ⟨W.heap.size, j, none⟩ = false := fun W' hW' j => (hBby.later hW').frozen j
    clear hWa hWb
    refine wp_region_held_drew (S := (fun w' => Later Wb w' ∧ Later W w')) (by kernel_rfl) (by exact ⟨inferInstance, inferInstance⟩) (fun hHeld => ?_)
    refine wpAnyH_take (i := 0) (v := ?_) (by simp only [List.getElem?_toArray, List.getElem?_cons_zero] <;> rfl) (by kernel_rfl) (by kernel_rfl) (by kernel_rfl) (by exact fun _ _ _ h => h) (Or.inl ⟨by kernel_rfl, ?_⟩) (by assumption) ?_
    rotate_left
    · intro w' hSw; (try dsimp only at hSw); go_simp; try with_reducible rfl
    try simp only [Act.put, List.setIfInBounds_toArray, List.set_cons_zero, List.set_cons_succ]
    refine wpAnyH_take (i := 1) (v := ?_) (by simp only [List.getElem?_toArray, List.getElem?_cons_succ, List.getElem?_cons_zero] <;> rfl) (by kernel_rfl) (by kernel_rfl) (by kernel_rfl) (by exact fun _ _ _ h => h) (Or.inl ⟨by kernel_rfl, ?_⟩) (by assumption) ?_
    rotate_left
    · intro w' hSw; (try dsimp only at hSw); go_simp; try with_reducible rfl
    try simp only [Act.put, List.setIfInBounds_toArray, List.set_cons_zero, List.set_cons_succ]
    refine wpAnyH_take (i := 2) (v := ?_) (by simp only [List.getElem?_toArray, List.getElem?_cons_succ, List.getElem?_cons_zero] <;> rfl) (by kernel_rfl) (by kernel_rfl) (by kernel_rfl) (by exact fun _ _ _ h => h) (Or.inl ⟨by kernel_rfl, ?_⟩) (by assumption) ?_
    rotate_left
    · intro w' hSw; (try dsimp only at hSw); go_simp; try with_reducible rfl
    try simp only [Act.put, List.setIfInBounds_toArray, List.set_cons_zero, List.set_cons_succ]
    refine wpAnyH_take (i := 3) (v := ?_) (by simp only [List.getElem?_toArray, List.getElem?_cons_succ, List.getElem?_cons_zero] <;> rfl) (by kernel_rfl) (by kernel_rfl) (by kernel_rfl) (by exact fun _ _ _ h => h) (Or.inl ⟨by kernel_rfl, ?_⟩) (by assumption) ?_
    rotate_left
    · intro w' hSw; (try dsimp only at hSw); go_simp; try with_reducible rfl
    try simp only [Act.put, List.setIfInBounds_toArray, List.set_cons_zero, List.set_cons_succ]
    refine wpAnyH_take (i := 4) (v := ?_) (by simp only [List.getElem?_toArray, List.getElem?_cons_succ, List.getElem?_cons_zero] <;> rfl) (by kernel_rfl) (by kernel_rfl) (by kernel_rfl) (by exact fun _ _ _ h => h) (Or.inl ⟨by kernel_rfl, ?_⟩) (by assumption) ?_
    rotate_left
    · intro w' hSw; (try dsimp only at hSw); go_simp; try with_reducible rfl
    try simp only [Act.put, List.setIfInBounds_toArray, List.set_cons_zero, List.set_cons_succ]
    refine wpAnyH_take (i := 5) (v := ?_) (by simp only [List.getElem?_toArray, List.getElem?_cons_succ, List.getElem?_cons_zero] <;> rfl) (by kernel_rfl) (by kernel_rfl) (by kernel_rfl) (by exact fun _ _ _ h => h) (Or.inl ⟨by kernel_rfl, ?_⟩) (by assumption) ?_
    rotate_left
    · intro w' hSw; (try dsimp only at hSw); go_simp; try with_reducible rfl
    try simp only [Act.put, List.setIfInBounds_toArray, List.set_cons_zero, List.set_cons_succ]
    refine wpAnyH_take (i := 6) (v := ?_) (by simp only [List.getElem?_toArray, List.getElem?_cons_succ, List.getElem?_cons_zero] <;> rfl) (by kernel_rfl) (by kernel_rfl) (by kernel_rfl) (by exact fun _ _ _ h => h) (Or.inl ⟨by kernel_rfl, ?_⟩) (by assumption) ?_
    rotate_left
    · intro w' hSw; (try dsimp only at hSw); go_simp; try with_reducible rfl
    try simp only [Act.put, List.setIfInBounds_toArray, List.set_cons_zero, List.set_cons_succ]
    refine wpAnyH_take (i := 7) (v := ?_) (by simp only [List.getElem?_toArray, List.getElem?_cons_succ, List.getElem?_cons_zero] <;> rfl) (by kernel_rfl) (by kernel_rfl) (by kernel_rfl) (by exact fun _ _ _ h => h) (Or.inl ⟨by kernel_rfl, ?_⟩) (by assumption) ?_
    rotate_left
    · intro w' hSw; (try dsimp only at hSw); go_simp; try with_reducible rfl
    try simp only [Act.put, List.setIfInBounds_toArray, List.set_cons_zero, List.set_cons_succ]
    refine wpAnyH_take (i := 8) (v := ?_) (by simp only [List.getElem?_toArray, List.getElem?_cons_succ, List.getElem?_cons_zero] <;> rfl) (by kernel_rfl) (by kernel_rfl) (by kernel_rfl) (by exact fun _ _ _ h => h) (Or.inl ⟨by kernel_rfl, ?_⟩) (by assumption) ?_
    rotate_left
    · intro w' hSw; (try dsimp only at hSw); go_simp; try with_reducible rfl
    try simp only [Act.put, List.setIfInBounds_toArray, List.set_cons_zero, List.set_cons_succ]
    refine wpAnyH_ready (rs := [9]) (by kernel_rfl) (by simp) (AllReadyH.cons rfl (fun K hK => ?_) AllReadyH.nil)
    go_simp
    skip
    refine hK.out _ _ (by exact ⟨inferInstance, inferInstance⟩) (fun hHeld => ?_)
    try simp only [Act.put, List.setIfInBounds_toArray, List.set_cons_zero, List.set_cons_succ]
    refine wpAnyH_ready (rs := [10]) (by kernel_rfl) (by simp) (AllReadyH.cons rfl (fun K hK => ?_) AllReadyH.nil)
    go_simp
    skip
    refine hK.out _ _ (by exact ⟨inferInstance, inferInstance⟩) (fun hHeld => ?_)
    try simp only [Act.put, List.setIfInBounds_toArray, List.set_cons_zero, List.set_cons_succ]
    refine wpAnyH_take (i := 11) (v := ?_) (by simp only [List.getElem?_toArray, List.getElem?_cons_succ, List.getElem?_cons_zero] <;> rfl) (by kernel_rfl) (by kernel_rfl) (by kernel_rfl) (by exact fun _ _ _ h => h) (Or.inl ⟨by kernel_rfl, ?_⟩) (by assumption) ?_
    rotate_left
    · intro w' hSw; (try dsimp only at hSw); go_simp; try with_reducible rfl
    try simp only [Act.put, List.setIfInBounds_toArray, List.set_cons_zero, List.set_cons_succ]
    refine wpAnyH_done (by kernel_rfl) ?_ _
    go_wp2
    have hB := hBby.alloc (.cells #[.int .i64 c0, .int .i64 d0] 153)
    have HF := (hB.set_ 0 (.int .i64 (c0))).set_ 1 (.int .i64 (d0))
    have hr0 := (HF.cell 0).trans (show _ = some (.int .i64 (c0) : Value) from rfl)
    have hr1 := (HF.cell 1).trans (show _ = some (.int .i64 (d0) : Value) from rfl)
    refine bodyPost_ret (v := .agg #[.int .i64 (c0), .int .i64 (d0)]) (by simp [results, Try.results101, go_sem, hr0, hr1]) rfl ?_
    exact ⟨rfl, (HM.out.later inferInstance).mono (by omega), Touch.of_later inferInstance⟩
  | false =>
    obtain ⟨cc, dv, hcd⟩ : ∃ cc dv, lkT t f r u = (cc, dv) := ⟨_, _, rfl⟩
    have HCD := Lib.hid hcd
    have hNB : NB (r + 1) = 1 + 13 * NB r := rfl
    obtain ⟨N, hN⟩ : ∃ N, N = NB r := ⟨_, rfl⟩
    rw [← hN] at hNB
    rw [hNB] at hc ⊢
    have HN := Lib.hid hN
    clear hok hcd hNB hN
    go_enter Try.func101, Try.ntmps101
    go_wp2_with fail
    rw [← hWa, ← hWb]
    clear hWa hWb
    refine wp_region_held_drew (S := (fun w' => Later Wb w' ∧ Later W w')) (by kernel_rfl) (by exact ⟨inferInstance, inferInstance⟩) (fun hHeld => ?_)
    refine wpAnyH_take (i := 0) (v := ?_) (by simp only [List.getElem?_toArray, List.getElem?_cons_zero] <;> rfl) (by kernel_rfl) (by kernel_rfl) (by kernel_rfl) (by exact fun _ _ _ h => h) (Or.inl ⟨by kernel_rfl, ?_⟩) (by assumption) ?_
    rotate_left
    · intro w' hSw; (try dsimp only at hSw); go_simp; try with_reducible rfl
    try simp only [Act.put, List.setIfInBounds_toArray, List.set_cons_zero, List.set_cons_succ]
    refine wpAnyH_take (i := 1) (v := ?_) (by simp only [List.getElem?_toArray, List.getElem?_cons_succ, List.getElem?_cons_zero] <;> rfl) (by kernel_rfl) (by kernel_rfl) (by kernel_rfl) (by exact fun _ _ _ h => h) (Or.inl ⟨by kernel_rfl, ?_⟩) (by assumption) ?_
    rotate_left
    · intro w' hSw; (try dsimp only at hSw); go_simp; try with_reducible rfl
    try simp only [Act.put, List.setIfInBounds_toArray, List.set_cons_zero, List.set_cons_succ]
    refine wpAnyH_take (i := 2) (v := ?_) (by simp only [List.getElem?_toArray, List.getElem?_cons_succ, List.getElem?_cons_zero] <;> rfl) (by kernel_rfl) (by kernel_rfl) (by kernel_rfl) (by exact fun _ _ _ h => h) (Or.inl ⟨by kernel_rfl, ?_⟩) (by assumption) ?_
    rotate_left
    · intro w' hSw; (try dsimp only at hSw); go_simp; try with_reducible rfl
    try simp only [Act.put, List.setIfInBounds_toArray, List.set_cons_zero, List.set_cons_succ]
    refine wpAnyH_take (i := 3) (v := ?_) (by simp only [List.getElem?_toArray, List.getElem?_cons_succ, List.getElem?_cons_zero] <;> rfl) (by kernel_rfl) (by kernel_rfl) (by kernel_rfl) (by exact fun _ _ _ h => h) (Or.inl ⟨by kernel_rfl, ?_⟩) (by assumption) ?_
    rotate_left
    · intro w' hSw; (try dsimp only at hSw); go_simp; try with_reducible rfl
    try simp only [Act.put, List.setIfInBounds_toArray, List.set_cons_zero, List.set_cons_succ]
    refine wpAnyH_take (i := 4) (v := ?_) (by simp only [List.getElem?_toArray, List.getElem?_cons_succ, List.getElem?_cons_zero] <;> rfl) (by kernel_rfl) (by kernel_rfl) (by kernel_rfl) (by exact fun _ _ _ h => h) (Or.inl ⟨by kernel_rfl, ?_⟩) (by assumption) ?_
    rotate_left
    · intro w' hSw; (try dsimp only at hSw); go_simp; try with_reducible rfl
    try simp only [Act.put, List.setIfInBounds_toArray, List.set_cons_zero, List.set_cons_succ]
    refine wpAnyH_take (i := 5) (v := ?_) (by simp only [List.getElem?_toArray, List.getElem?_cons_succ, List.getElem?_cons_zero] <;> rfl) (by kernel_rfl) (by kernel_rfl) (by kernel_rfl) (by exact fun _ _ _ h => h) (Or.inl ⟨by kernel_rfl, ?_⟩) (by assumption) ?_
    rotate_left
    · intro w' hSw; (try dsimp only at hSw); go_simp; try with_reducible rfl
    try simp only [Act.put, List.setIfInBounds_toArray, List.set_cons_zero, List.set_cons_succ]
    refine wpAnyH_take (i := 6) (v := ?_) (by simp only [List.getElem?_toArray, List.getElem?_cons_succ, List.getElem?_cons_zero] <;> rfl) (by kernel_rfl) (by kernel_rfl) (by kernel_rfl) (by exact fun _ _ _ h => h) (Or.inl ⟨by kernel_rfl, ?_⟩) (by assumption) ?_
    rotate_left
    · intro w' hSw; (try dsimp only at hSw); go_simp; try with_reducible rfl
    try simp only [Act.put, List.setIfInBounds_toArray, List.set_cons_zero, List.set_cons_succ]
    refine wpAnyH_take (i := 7) (v := ?_) (by simp only [List.getElem?_toArray, List.getElem?_cons_succ, List.getElem?_cons_zero] <;> rfl) (by kernel_rfl) (by kernel_rfl) (by kernel_rfl) (by exact fun _ _ _ h => h) (Or.inl ⟨by kernel_rfl, ?_⟩) (by assumption) ?_
    rotate_left
    · intro w' hSw; (try dsimp only at hSw); go_simp; try with_reducible rfl
    try simp only [Act.put, List.setIfInBounds_toArray, List.set_cons_zero, List.set_cons_succ]
    refine wpAnyH_take (i := 8) (v := ?_) (by simp only [List.getElem?_toArray, List.getElem?_cons_succ, List.getElem?_cons_zero] <;> rfl) (by kernel_rfl) (by kernel_rfl) (by kernel_rfl) (by exact fun _ _ _ h => h) (Or.inl ⟨by kernel_rfl, ?_⟩) (by assumption) ?_
    rotate_left
    · intro w' hSw; (try dsimp only at hSw); go_simp; try with_reducible rfl
    try simp only [Act.put, List.setIfInBounds_toArray, List.set_cons_zero, List.set_cons_succ]
    refine wpAnyH_ready (rs := [9]) (by kernel_rfl) (by simp) (AllReadyH.cons rfl (fun K hK => ?_) AllReadyH.nil)
    go_simp
    skip
    refine hK.out _ _ (by exact ⟨inferInstance, inferInstance⟩) (fun hHeld => ?_)
    try simp only [Act.put, List.setIfInBounds_toArray, List.set_cons_zero, List.set_cons_succ]
    refine wpAnyH_ready (rs := [10]) (by kernel_rfl) (by simp) (AllReadyH.cons rfl (fun K hK => ?_) AllReadyH.nil)
    go_simp
    skip
    refine hK.out _ _ (by exact ⟨inferInstance, inferInstance⟩) (fun hHeld => ?_)
    try simp only [Act.put, List.setIfInBounds_toArray, List.set_cons_zero, List.set_cons_succ]
    refine wpAnyH_take (i := 11) (v := ?_) (by simp only [List.getElem?_toArray, List.getElem?_cons_succ, List.getElem?_cons_zero] <;> rfl) (by kernel_rfl) (by kernel_rfl) (by kernel_rfl) (by exact fun _ _ _ h => h) (Or.inl ⟨by kernel_rfl, ?_⟩) (by assumption) ?_
    rotate_left
    · intro w' hSw; (try dsimp only at hSw); go_simp; try with_reducible rfl
    try simp only [Act.put, List.setIfInBounds_toArray, List.set_cons_zero, List.set_cons_succ]
    refine wpAnyH_done (by kernel_rfl) ?_ _
    go_wp2_with (go_at_call 101; go_loud (refine (HBS.out _ _ _ (i + 1) u cnt (by omega) rfl (by omega) hu (hl0.trans inferInstance) (hl2.trans inferInstance) (HX.out.later inferInstance) (HM.out.later inferInstance) (by rw [← HN.out]; omega)).mono ?_; rw [HCD.out, ← HN.out]; rintro e w5 ⟨rfl, hM5, hT5⟩; have hT0 := (Touch.of_later (fp := [b]) (inferInstance : Later W (World.drew _))).trans hT5; have hX5 := hT0.blk HX.out (by simpa using hgb); have hB5 := hT5.blk (show Blk (World.drew _) _ _ _ from hBby.alloc _) (by simp; omega); have hK5 := hT5.blk (show Blk (World.drew _) _ _ _ from hKy.alloc _) (by simp; omega); have hX5c : ∀ W' [Later w5 W'] (j : Nat), W'.cell? ⟨gx, j, none⟩ = (#[.slice sA0 sn0 sc0, .slice sA1 sn1 sc1, .slice sA2 t.Trips.length sc2, .slice qA0 qn0 qc0, .int .i64 f.Turn, .map (some b)] : Array Value)[j]? := (fun W' hW' j => (hX5.later hW').cell j)))
    obtain ⟨W2, hW2⟩ : ∃ W2 : World, W2 = w5.alloc (.cells #[.int .i64 cc, .int .i64 dv] 153) := ⟨_, rfl⟩
    have h10 : Blk W2 w5.heap.size 153 #[.int .i64 cc, .int .i64 dv] := by rw [hW2]; exact Blk.new _ _ _
    haveI L2 : Later w5 W2 := by rw [hW2]; infer_instance
    have hX2 := hX5.later L2
    have hB2 := hB5.later L2
    have hK2 := hK5.later L2
    have hM2 := hM5.later L2
    have hT2 := hT0.trans (Touch.of_later L2)
    have hg5 : w5.heap.size < W2.heap.size := h10.lt
    have hb5 : b < w5.heap.size := hM5.lt
    have hx5 := hX5.lt
    have hB5lt := hB5.lt
    have hK5lt := hK5.lt
    have l02 := hT2.later hl0 (fun g hg => by rw [List.mem_singleton.1 hg]; exact hb0)
    have l22 := hT2.later hl2 (fun g hg => by rw [List.mem_singleton.1 hg]; exact hb2)
    obtain ⟨g5, hg5e⟩ : ∃ g5, g5 = w5.heap.size := ⟨_, rfl⟩
    rw [← hW2]
    rw [← hg5e] at h10 hg5 hb5 hx5 hB5lt hK5lt ⊢
    have HX2 := Lib.hid hX2
    have HB2 := Lib.hid hB2
    have HK2 := Lib.hid hK2
    have HT2 := Lib.hid hT2
    clear hW2 hX2 hB2 hK2 hX5 hB5 hK5 hX5c hT5 hT0 hM5 hT2 hg5e
    go_loopw [48] (fun av wr => ∃ (a cnt' : Nat), a ≤ t.Trips.length ∧ av = .int .i64 (a : Int) ∧ Hid (Blk wr g5 153 #[.int .i64 (lkAt t f r i u a).1, .int .i64 (lkAt t f r i u a).2]) ∧ Hid (MemoOK (memoF t f) wr b cnt') ∧ Hid (cnt' ≤ cnt + (a + 1) * N) ∧ Hid (Touch [b, g5] W2 wr)) (fun av _ => t.Trips.length - (intOf av).toNat)
    case atStart => exact ⟨0, _, by omega, rfl, Lib.hid (by rw [lkAt_zero, HCD.out]; exact h10), Lib.hid hM2, Lib.hid (by omega), Lib.hid Touch.refl_⟩
    case round =>
      obtain ⟨a, cnt', ha, rfl, h10, hM, hcn, hT⟩ := hrel
      have hXr := hT.out.blk HX2.out (by simp; omega)
      have hBr := hT.out.blk HB2.out (by simp; omega)
      have hKr := hT.out.blk HK2.out (by simp; omega)
      have l0r := hT.out.later l02 (fun g hg => by simp at hg; have := hl0.size; omega)
      have l2r := hT.out.later l22 (fun g hg => by simp at hg; have := hl2.size; omega)
      obtain ⟨cu, du, hcu⟩ : ∃ cu du, lkAt t f r i u a = (cu, du) := ⟨_, _, rfl⟩
      have h10r : Blk wr g5 153 #[.int .i64 cu, .int .i64 du] := by have h9 := h10.out; rw [hcu] at h9; exact h9
      by_cases hlt : a < t.Trips.length
      · have hmul : (a + 1) * N + N ≤ 13 * N := by
          have h9 := Nat.mul_le_mul_right N (show a + 1 + 1 ≤ 13 by omega)
          rw [Nat.succ_mul] at h9
          exact h9
        have hcn2 : Hid (cnt' + N ≤ cnt + (a + 1 + 1) * N) := by show _ ≤ _; rw [Nat.succ_mul]; have := hcn.out; omega
        have hcl : cnt' + NB r ≤ 1000000000000000 := by rw [← HN.out]; have := hcn.out; omega
        obtain ⟨c3, d3, ok3, hav⟩ : ∃ c3 d3 ok3, aftV t f r i a u = ((c3, d3), ok3) := ⟨_, _, _, rfl⟩
        have HAV := Lib.hid hav
        have hstep := Lib.hid (lkAt_step (f := f) (r := r) (i := i) (u := u) hlt)
        have HCU := Lib.hid hcu
        have HXr := Lib.hid hXr
        clear hcu hav hXr hBr hKr h10
        cases ok3 with
        | false =>
          have hnx : Hid (lkAt t f r i u (a + 1) = (cu, du)) := by show _ = _; rw [hstep.out, lkStep_no (.inl (by rw [HAV.out])), HCU.out]
          go_wp2_with (go_at_call 103; go_loud (refine (HAF.out wr _ _ _ i a u cnt' rfl rfl rfl hir hlt hu l0r l2r HXr.out hM.out hcl).mono ?_; rw [HAV.out, ← HN.out]; rintro e w6 ⟨rfl, hM6, hT6⟩; have h6r := hT6.blk h10r (by simp; omega); have h6c : ∀ W' [Later w6 W'] (j : Nat), W'.cell? ⟨g5, j, none⟩ = (#[.int .i64 cu, .int .i64 du] : Array Value)[j]? := (fun W' hW' j => (h6r.later hW').cell j); have h6f : ∀ W' [Later w6 W'] (j : Nat), W'.frozen? ⟨g5, j, none⟩ = false := (fun W' hW' j => (h6r.later hW').frozen j)))
          go_roundw
          case rel => exact ⟨a + 1, cnt' + N, by omega, by go_num, Lib.hid (by rw [hnx.out]; exact h6r.later inferInstance), Lib.hid (hM6.later inferInstance), hcn2, Lib.hid ((hT.out.trans (hT6.mono (by simp))).trans (Touch.of_later inferInstance))⟩
          case measure => simp [intOf]; omega
        | true =>
          obtain ⟨z, hz⟩ : ∃ z, z = lnkC (c3, d3) (cu, du) := ⟨_, rfl⟩
          have HZ := Lib.hid hz.symm
          by_cases hzl : z < 0
          · have hnx : Hid (lkAt t f r i u (a + 1) = (c3, d3)) := by show _ = _; rw [hstep.out, HCU.out, lkStep_yes (by rw [HAV.out]) (by rw [HAV.out, ← hz]; exact hzl), HAV.out]
            clear hz
            go_wp2_with first
              | (go_at_call 103; go_loud (refine (HAF.out wr _ _ _ i a u cnt' rfl rfl rfl hir hlt hu l0r l2r HXr.out hM.out hcl).mono ?_; rw [HAV.out, ← HN.out]; rintro e w6 ⟨rfl, hM6, hT6⟩; have h6r := hT6.blk h10r (by simp; omega); have h6c : ∀ W' [Later w6 W'] (j : Nat), W'.cell? ⟨g5, j, none⟩ = (#[.int .i64 cu, .int .i64 du] : Array Value)[j]? := (fun W' hW' j => (h6r.later hW').cell j); have h6f : ∀ W' [Later w6 W'] (j : Nat), W'.frozen? ⟨g5, j, none⟩ = false := (fun W' hW' j => (h6r.later hW').frozen j)))
              | (go_at_call 102; go_loud (refine (impl_compareLinks c3 d3 cu du _).mono ?_; rw [HZ.out]; rintro e w8 ⟨rfl, L8⟩; have U8 := Later.trans (w := w6) inferInstance L8; have hBx := (Blk.new w6 153 #[.int .i64 c3, .int .i64 d3]).later L8; have hcx := hBx.cell; have hfx := hBx.frozen))
            go_roundw
            case rel => exact ⟨a + 1, cnt' + N, by omega, by go_num, Lib.hid (by rw [hnx.out]; exact ((h6r.later U8).set_ 0 _).set_ 1 _), Lib.hid ((hM6.later U8).touch (fp := [g5]) ((Touch.refl_.set_ (by simp) _ _).set_ (by simp) _ _) (by simp; omega)), hcn2, Lib.hid ((((hT.out.trans (hT6.mono (by simp))).trans (Touch.of_later U8)).set_ (by simp) _ _).set_ (by simp) _ _)⟩
            case measure => simp [intOf]; omega
          · have hnx : Hid (lkAt t f r i u (a + 1) = (cu, du)) := by show _ = _; rw [hstep.out, HCU.out, lkStep_no (.inr (by rw [HAV.out, ← hz]; exact hzl))]
            clear hz
            go_wp2_with first
              | (go_at_call 103; go_loud (refine (HAF.out wr _ _ _ i a u cnt' rfl rfl rfl hir hlt hu l0r l2r HXr.out hM.out hcl).mono ?_; rw [HAV.out, ← HN.out]; rintro e w6 ⟨rfl, hM6, hT6⟩; have h6r := hT6.blk h10r (by simp; omega); have h6c : ∀ W' [Later w6 W'] (j : Nat), W'.cell? ⟨g5, j, none⟩ = (#[.int .i64 cu, .int .i64 du] : Array Value)[j]? := (fun W' hW' j => (h6r.later hW').cell j); have h6f : ∀ W' [Later w6 W'] (j : Nat), W'.frozen? ⟨g5, j, none⟩ = false := (fun W' hW' j => (h6r.later hW').frozen j)))
              | (go_at_call 102; go_loud (refine (impl_compareLinks c3 d3 cu du _).mono ?_; rw [HZ.out]; rintro e w8 ⟨rfl, L8⟩; have U8 := Later.trans (w := w6) inferInstance L8; have hBx := (Blk.new w6 153 #[.int .i64 c3, .int .i64 d3]).later L8; have hcx := hBx.cell; have hfx := hBx.frozen))
            go_roundw
            case rel => exact ⟨a + 1, cnt' + N, by omega, by go_num, Lib.hid (by rw [hnx.out]; exact h6r.later inferInstance), Lib.hid (hM6.later inferInstance), hcn2, Lib.hid ((hT.out.trans (hT6.mono (by simp))).trans (Touch.of_later inferInstance))⟩
            case measure => simp [intOf]; omega
      · obtain rfl : a = t.Trips.length := by omega
        have hend := lkAt_end (f := f) (u := u) hir
        rw [hcu] at hend
        have HEND := Lib.hid hend
        have hcnb : Hid (cnt' + 1 ≤ cnt + (1 + 13 * N)) := by
          have h9 := Nat.mul_le_mul_right N (show t.Trips.length + 1 ≤ 13 by omega)
          show _ ≤ _
          have := hcn.out
          omega
        have hcm : cnt' < maxLen := by have := hcnb.out; unfold maxLen; omega
        have e2 : memoF t f i u = (cu, du) := by unfold memoF; rw [show t.Trips.length - i = r + 1 by omega, hend]
        obtain ⟨w9, hrn, hM9, hG9⟩ := (hM.out.later (inferInstance : Later wr wr.drew)).put (i := i) (u := u) (by omega) hu hcm
        rw [e2] at hrn
        have hT9 := (Touch.of_later (fp := [b]) (inferInstance : Later wr wr.drew)).trans (Touch.grown hG9)
        have h9c := hT9.blk h10r (by simp; omega)
        have h9b := hT9.blk hBr (by simp; omega)
        have c9c : ∀ W' [Later w9 W'] (j : Nat), W'.cell? ⟨g5, j, none⟩ = (#[.int .i64 cu, .int .i64 du] : Array Value)[j]? := fun W' hW' j => (h9c.later hW').cell j
        have c9b : ∀ W' [Later w9 W'] (j : Nat), W'.cell? ⟨W.heap.size, j, none⟩ = (#[.int .i64 0, .int .i64 0] : Array Value)[j]? := fun W' hW' j => (h9b.later hW').cell j
        have f9b : ∀ W' [Later w9 W'] (j : Nat), W'.frozen? ⟨W.heap.size, j, none⟩ = false := fun W' hW' j => (h9b.later hW').frozen j
        have HB10 := Lib.hid h10r
        have c15x := Touch.cells (fp := [b]) hXr (by simpa using hgb)
        have c15k := Touch.cells (fp := [b]) hKr (by simp; omega)
        have c15c := Touch.cells (fp := [b]) h10r (by simp; omega)
        have HBr := Lib.hid hBr
        clear hend e2 hXr hKr h10r h10 hcu hBr
        go_wp2_with fail
        refine wp_region_held_drew (S := (fun w' => Touch [b] wr w')) (by kernel_rfl) (by first | exact Touch.of_later inferInstance | exact hT9) (fun hHeld => ?_)
        refine wpAnyH_take (i := 0) (v := ?_) (by simp only [List.getElem?_toArray, List.getElem?_cons_zero] <;> rfl) (by kernel_rfl) (by kernel_rfl) (by kernel_rfl) (by exact fun _ _ _ h => h) (Or.inl ⟨by kernel_rfl, ?_⟩) (by assumption) ?_
        rotate_left
        · intro w' hSw; (try dsimp only at hSw); go_simp; try with_reducible rfl
        try simp only [Act.put, List.setIfInBounds_toArray, List.set_cons_zero, List.set_cons_succ]
        refine wpAnyH_take (i := 1) (v := ?_) (by simp only [List.getElem?_toArray, List.getElem?_cons_succ, List.getElem?_cons_zero] <;> rfl) (by kernel_rfl) (by kernel_rfl) (by kernel_rfl) (by exact fun _ _ _ h => h) (Or.inl ⟨by kernel_rfl, ?_⟩) (by assumption) ?_
        rotate_left
        · intro w' hSw; (try dsimp only at hSw); go_simp; try with_reducible rfl
        try simp only [Act.put, List.setIfInBounds_toArray, List.set_cons_zero, List.set_cons_succ]
        refine wpAnyH_take (i := 2) (v := ?_) (by simp only [List.getElem?_toArray, List.getElem?_cons_succ, List.getElem?_cons_zero] <;> rfl) (by kernel_rfl) (by kernel_rfl) (by kernel_rfl) (by exact fun _ _ _ h => h) (Or.inl ⟨by kernel_rfl, ?_⟩) (by assumption) ?_
        rotate_left
        · intro w' hSw; (try dsimp only at hSw); go_simp; try with_reducible rfl
        try simp only [Act.put, List.setIfInBounds_toArray, List.set_cons_zero, List.set_cons_succ]
        refine wpAnyH_take (i := 3) (v := ?_) (by simp only [List.getElem?_toArray, List.getElem?_cons_succ, List.getElem?_cons_zero] <;> rfl) (by kernel_rfl) (by kernel_rfl) (by kernel_rfl) (by exact fun _ _ _ h => h) (Or.inl ⟨by kernel_rfl, ?_⟩) (by assumption) ?_
        rotate_left
        · intro w' hSw; (try dsimp only at hSw); go_simp; try with_reducible rfl
        try simp only [Act.put, List.setIfInBounds_toArray, List.set_cons_zero, List.set_cons_succ]
        refine wpAnyH_take (i := 4) (v := ?_) (by simp only [List.getElem?_toArray, List.getElem?_cons_succ, List.getElem?_cons_zero] <;> rfl) (by kernel_rfl) (by kernel_rfl) (by kernel_rfl) (by exact fun _ _ _ h => h) (Or.inl ⟨by kernel_rfl, ?_⟩) (by assumption) ?_
        rotate_left
        · intro w' hSw; (try dsimp only at hSw); go_simp; try with_reducible rfl
        try simp only [Act.put, List.setIfInBounds_toArray, List.set_cons_zero, List.set_cons_succ]
        refine wpAnyH_take (i := 5) (v := ?_) (by simp only [List.getElem?_toArray, List.getElem?_cons_succ, List.getElem?_cons_zero] <;> rfl) (by kernel_rfl) (by kernel_rfl) (by kernel_rfl) (by exact fun _ _ _ h => h) (Or.inl ⟨by kernel_rfl, ?_⟩) (by assumption) ?_
        rotate_left
        · intro w' hSw; (try dsimp only at hSw); go_simp; try with_reducible rfl
        try simp only [Act.put, List.setIfInBounds_toArray, List.set_cons_zero, List.set_cons_succ]
        refine wpAnyH_ready (rs := [6]) (by kernel_rfl) (by simp) (AllReadyH.cons rfl (fun K hK => ?_) AllReadyH.nil)
        go_simp
        skip
        refine hK.out _ _ (by first | exact Touch.of_later inferInstance | exact hT9) (fun hHeld => ?_)
        try simp only [Act.put, List.setIfInBounds_toArray, List.set_cons_zero, List.set_cons_succ]
        refine wpAnyH_done (by kernel_rfl) ?_ _
        go_wp2
        have hB := h9b
        have HF := (hB.set_ 0 (.int .i64 (cu))).set_ 1 (.int .i64 (du))
        have hr0 := (HF.cell 0).trans (show _ = some (.int .i64 (cu) : Value) from rfl)
        have hr1 := (HF.cell 1).trans (show _ = some (.int .i64 (du) : Value) from rfl)
        refine bodyPost_ret (v := .agg #[.int .i64 (cu), .int .i64 (du)]) (by simp [results, Try.results101, go_sem, hr0, hr1]) rfl ?_
        refine ⟨by rw [← HEND.out], ((hM9.touch (fp := [W.heap.size]) ((Touch.refl_.set_ (by simp) _ _).set_ (by simp) _ _) (by simp; omega)).mono hcnb.out), ?_⟩
        have h9 : Touch [b] W w9 := ((((HT2.out.mono (fq := [b, g5]) (by simp)).trans hT.out).trans (hT9.mono (by simp))).less (fun g hg hl => by simp at hg ⊢; omega))
        exact (h9.new_ (Nat.le_refl _) _ _).new_ (Nat.le_refl _) _ _
theorem best_all {w0 w2 : World} {sA0 : Option Addr} {sn0 sc0 : Nat} {sA1 : Option Addr} {sn1 sc1 : Nat} {sA2 : Option Addr} {sn2 sc2 : Nat} {t : Timetable} (h : TimetableAt w0 sA0 sn0 sc0 sA1 sn1 sc1 sA2 sn2 sc2 t) {qA0 : Option Addr} {qn0 qc0 : Nat} {f : Fleet} (h2 : FleetAt w2 qA0 qn0 qc0 f) (rf : RunFacts t f) {gx b : Nat} (hb0 : w0.heap.size ≤ b) (hb2 : w2.heap.size ≤ b) (hgb : gx ≠ b) (r : Nat) : BestC t f w0 w2 #[.slice sA0 sn0 sc0, .slice sA1 sn1 sc1, .slice sA2 sn2 sc2, .slice qA0 qn0 qc0, .int .i64 f.Turn, .map (some b)] gx b r ∧ AfterC t f w0 w2 #[.slice sA0 sn0 sc0, .slice sA1 sn1 sc1, .slice sA2 sn2 sc2, .slice qA0 qn0 qc0, .int .i64 f.Turn, .map (some b)] gx b r := by
  induction r with
  | zero => exact ⟨best_zero h h2 rf hb0 hb2 hgb, after_step h h2 rf hb0 hb2 hgb (best_zero h h2 rf hb0 hb2 hgb)⟩
  | succ r ih =>
    have h1 := best_succ h h2 rf hb0 hb2 hgb ih.1 ih.2
    exact ⟨h1, after_step h h2 rf hb0 hb2 hgb h1⟩
end Go.Proofs.Ytaopadffabbjiaa
