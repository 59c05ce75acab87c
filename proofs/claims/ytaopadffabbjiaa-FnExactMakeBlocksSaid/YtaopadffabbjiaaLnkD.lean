/-
  MakeBlocks: impl.makeBlocks.
-/
import Derived.Test.YtaopadffabbjiaaLnkC
import Derived.Test.YtaopadffabbjiaaLnkE
import Derived.Test.YtaopadffabbjiaaRowA
import Derived.Test.YtaopadffabbjiaaORow
namespace Go.Proofs.Ytaopadffabbjiaa
open Go Go.RowKit
set_option linter.unusedVariables false
set_option maxRecDepth 100000
set_option linter.unusedSimpArgs false
theorem NB_le2 {r : Nat} (h : r ≤ 12) : NB r ≤ 2000000000000 := by
  have : ∀ m : Fin 13, NB m.val ≤ 2000000000000 := by decide
  exact this ⟨r, by omega⟩
def rowB (n i : Nat) (pre : List (Option Nat)) : List Int := pre.map bI ++ List.replicate (n - i) 0
theorem rowB_set {n i : Nat} {pre : List (Option Nat)} (hp : pre.length = i) (hi : i < n) (o : Option Nat) : (rowB n i pre).set i (bI o) = rowB n (i + 1) (pre ++ [o]) := by
  unfold rowB
  rw [List.set_append_right _ _ (by simp [hp]), List.length_map, hp, Nat.sub_self]
  obtain ⟨m, hm⟩ : ∃ m, n - i = m + 1 := ⟨n - i - 1, by omega⟩
  rw [hm, show n - (i + 1) = m by omega, List.replicate_succ, List.set_cons_zero]
  simp
theorem rowB_set2 {n i : Nat} {pre : List (Option Nat)} (hp : pre.length = i) (o o2 : Option Nat) : (rowB n (i + 1) (pre ++ [o])).set i (bI o2) = rowB n (i + 1) (pre ++ [o2]) := by
  unfold rowB
  rw [List.set_append_left _ _ (by simp [hp]), List.map_append, List.map_append, List.set_append_right _ _ (by simp [hp]), List.length_map, hp, Nat.sub_self]
  rfl
theorem rowB_len {n i : Nat} {pre : List (Option Nat)} (hp : pre.length = i) (hi : i ≤ n) : (rowB n i pre).length = n := by unfold rowB; simp [hp]; omega
theorem hit_drop {n a : Nat} {p : Nat → Bool} (ha : a < n) : ((List.range n).drop a).find? p = if p a = true then some a else ((List.range n).drop (a + 1)).find? p := by
  rw [drop_at (x := a) (List.getElem?_range ha), List.find?_cons]
  cases p a <;> rfl
theorem hit_aft {t : Timetable} {f : Fleet} {r i u a : Nat} (hir : i + (r + 1) = t.Trips.length) : hitI t.Trips.length (folT t f) (ddT t f) r u a = true ↔ (aftV t f r i a u).2 = true ∧ (aftV t f r i a u).1 = lkT t f (r + 1) u := by
  have e : t.Trips.length - (r + 1) = i := by omega
  unfold hitI aftV
  rw [e, Bool.and_eq_true, decide_eq_true_eq]
  by_cases hm : mayF (folT t f) u i a = true
  · rw [if_pos hm]
    exact ⟨fun h => ⟨rfl, h.2⟩, fun h => ⟨hm, h.2⟩⟩
  · rw [if_neg hm]
    exact ⟨fun h => absurd h.1 hm, fun h => by cases h.1⟩
def RetBk (t : Timetable) (f : Fleet) (w : World) (e : Ending) (w' : World) : Prop := ∃ A n c fp, e = .returned (.tuple #[.slice A n c, .int .i64 (blkDead t f)]) ∧ OSl 1 (oSl 1 oInt) w' A n c (blkRows t f) fp ∧ fp.Nodup ∧ (∀ g, g ∈ fp → w.heap.size ≤ g) ∧ Later w w'
set_option maxHeartbeats 8000000 in
theorem impl_makeBlocks {w0 w w2 : World} {sA0 : Option Addr} {sn0 sc0 : Nat} {sA1 : Option Addr} {sn1 sc1 : Nat} {sA2 : Option Addr} {sn2 sc2 : Nat} {t : Timetable} (h : TimetableAt w0 sA0 sn0 sc0 sA1 sn1 sc1 sA2 sn2 sc2 t) (hl : Later w0 w) {qA0 : Option Addr} {qn0 qc0 : Nat} {f : Fleet} (h2 : FleetAt w2 qA0 qn0 qc0 f) (hl2 : Later w2 w) (rf : RunFacts t f) :
    Calls Try.prog 50 #[.agg #[.slice sA0 sn0 sc0, .slice sA1 sn1 sc1, .slice sA2 sn2 sc2], .agg #[.slice qA0 qn0 qc0, .int .i64 f.Turn]] w (RetBk t f w) := by
  have hsn : sn2 = t.Trips.length := h.l_Trips.len
  subst hsn
  have HB0 : ∀ W [Later ((w.alloc (.cells #[.slice sA0 sn0 sc0, .slice sA1 sn1 sc1, .slice sA2 t.Trips.length sc2] 41)).alloc (.cells #[.slice qA0 qn0 qc0, .int .i64 f.Turn] 43)) W] (j : Nat), W.cell? ⟨w.heap.size, j, none⟩ = #[.slice sA0 sn0 sc0, .slice sA1 sn1 sc1, .slice sA2 t.Trips.length sc2][j]? := Later.boxes (t := 41) (fr := (0, 0)) ((heap_old (by simp; try omega)).trans (heap_new (by simp; try omega))); have HB1 : ∀ W [Later ((w.alloc (.cells #[.slice sA0 sn0 sc0, .slice sA1 sn1 sc1, .slice sA2 t.Trips.length sc2] 41)).alloc (.cells #[.slice qA0 qn0 qc0, .int .i64 f.Turn] 43)) W] (j : Nat), W.cell? ⟨w.heap.size + 1, j, none⟩ = #[.slice qA0 qn0 qc0, .int .i64 f.Turn][j]? := Later.boxes (t := 43) (fr := (0, 0)) (heap_new (by simp; try omega)); obtain ⟨wb, hwb⟩ : ∃ wb : World, wb = ((w.alloc (.cells #[.slice sA0 sn0 sc0, .slice sA1 sn1 sc1, .slice sA2 t.Trips.length sc2] 41)).alloc (.cells #[.slice qA0 qn0 qc0, .int .i64 f.Turn] 43)) := ⟨_, rfl⟩; haveI hbW : Later wb ((w.alloc (.cells #[.slice sA0 sn0 sc0, .slice sA1 sn1 sc1, .slice sA2 t.Trips.length sc2] 41)).alloc (.cells #[.slice qA0 qn0 qc0, .int .i64 f.Turn] 43)) := (by rw [hwb]; exact Later.rfl_); haveI hww : Later w wb := (by rw [hwb]; infer_instance); rw [← hwb] at HB0; rw [← hwb] at HB1; have hbE := Lib.hid (congrArg (fun x : World => x.heap.size) hwb); clear hwb
  have hbs : wb.heap.size = w.heap.size + 2 := by simpa using hbE.out
  have hwb0 := hl.trans hww
  have hwb2 := hl2.trans hww
  clear hbE
  have hlen := rf.time.len
  have hmm := @run_makeMap Try.prog
  have hmk := make_ints t.Trips.length (by omega)
  obtain ⟨b, hb⟩ : ∃ b, b = wb.heap.size := ⟨_, rfl⟩
  have hbst := fun r => (best_all (gx := b + 1) (b := b) h h2 rf (by rw [hb]; exact hwb0.size) (by rw [hb]; exact hwb2.size) (by omega) r)
  have HBS := Lib.hid hbst
  clear hbst
  go_enter Try.func50, Try.ntmps50
  go_wp2_with fail
  obtain ⟨W3, hW3⟩ : ∃ W3 : World, W3 = (((((w.alloc (.cells #[.slice sA0 sn0 sc0, .slice sA1 sn1 sc1, .slice sA2 t.Trips.length sc2] 41)).alloc (.cells #[.slice qA0 qn0 qc0, .int .i64 f.Turn] 43)).alloc (.map #[] 0)).alloc (.cells #[.slice sA0 sn0 sc0, .slice sA1 sn1 sc1, .slice sA2 t.Trips.length sc2, .slice qA0 qn0 qc0, .int .i64 f.Turn, .map (some b)] 151)).alloc (.cells (rowA (List.replicate t.Trips.length 0)) 3)) := ⟨_, rfl⟩
  have hbn : b = w.heap.size + 1 + 1 := by omega
  have hgx : Blk W3 (b + 1) 151 #[.slice sA0 sn0 sc0, .slice sA1 sn1 sc1, .slice sA2 t.Trips.length sc2, .slice qA0 qn0 qc0, .int .i64 f.Turn, .map (some b)] := by
    have h9 := (Blk.new (((w.alloc (.cells #[.slice sA0 sn0 sc0, .slice sA1 sn1 sc1, .slice sA2 t.Trips.length sc2] 41)).alloc (.cells #[.slice qA0 qn0 qc0, .int .i64 f.Turn] 43)).alloc (.map #[] 0)) 151 #[.slice sA0 sn0 sc0, .slice sA1 sn1 sc1, .slice sA2 t.Trips.length sc2, .slice qA0 qn0 qc0, .int .i64 f.Turn, .map (some b)]).alloc (.cells (rowA (List.replicate t.Trips.length 0)) 3)
    have e9 : (((w.alloc (.cells #[.slice sA0 sn0 sc0, .slice sA1 sn1 sc1, .slice sA2 t.Trips.length sc2] 41)).alloc (.cells #[.slice qA0 qn0 qc0, .int .i64 f.Turn] 43)).alloc (.map #[] 0)).heap.size = b + 1 := by rw [hbn]; simp
    rw [e9] at h9
    rw [hW3]; exact h9
  have hg7 : Blk W3 (b + 2) 3 (rowA (List.replicate t.Trips.length 0)) := by
    have h9 := Blk.new ((((w.alloc (.cells #[.slice sA0 sn0 sc0, .slice sA1 sn1 sc1, .slice sA2 t.Trips.length sc2] 41)).alloc (.cells #[.slice qA0 qn0 qc0, .int .i64 f.Turn] 43)).alloc (.map #[] 0)).alloc (.cells #[.slice sA0 sn0 sc0, .slice sA1 sn1 sc1, .slice sA2 t.Trips.length sc2, .slice qA0 qn0 qc0, .int .i64 f.Turn, .map (some b)] 151)) 3 (rowA (List.replicate t.Trips.length 0))
    have e9 : ((((w.alloc (.cells #[.slice sA0 sn0 sc0, .slice sA1 sn1 sc1, .slice sA2 t.Trips.length sc2] 41)).alloc (.cells #[.slice qA0 qn0 qc0, .int .i64 f.Turn] 43)).alloc (.map #[] 0)).alloc (.cells #[.slice sA0 sn0 sc0, .slice sA1 sn1 sc1, .slice sA2 t.Trips.length sc2, .slice qA0 qn0 qc0, .int .i64 f.Turn, .map (some b)] 151)).heap.size = b + 2 := by rw [hbn]; simp
    rw [e9] at h9
    rw [hW3]; exact h9
  haveI L3 : Later wb W3 := by rw [hW3]; infer_instance
  have hM3 : MemoOK (memoF t f) W3 b 0 := by
    have h9 := (MemoOK.made (memoF t f) ((w.alloc (.cells #[.slice sA0 sn0 sc0, .slice sA1 sn1 sc1, .slice sA2 t.Trips.length sc2] 41)).alloc (.cells #[.slice qA0 qn0 qc0, .int .i64 f.Turn] 43))).later (inferInstance : Later _ ((((((w.alloc (.cells #[.slice sA0 sn0 sc0, .slice sA1 sn1 sc1, .slice sA2 t.Trips.length sc2] 41)).alloc (.cells #[.slice qA0 qn0 qc0, .int .i64 f.Turn] 43)).alloc (.map #[] 0)).alloc (.cells #[.slice sA0 sn0 sc0, .slice sA1 sn1 sc1, .slice sA2 t.Trips.length sc2, .slice qA0 qn0 qc0, .int .i64 f.Turn, .map (some b)] 151)).alloc (.cells (rowA (List.replicate t.Trips.length 0)) 3))))
    rw [hW3]
    have e9 : ((w.alloc (.cells #[.slice sA0 sn0 sc0, .slice sA1 sn1 sc1, .slice sA2 t.Trips.length sc2] 41)).alloc (.cells #[.slice qA0 qn0 qc0, .int .i64 f.Turn] 43)).heap.size = b := by rw [hbn]; simp
    rw [e9] at h9
    exact h9
  rw [← hbn]
  rw [← hW3]
  have hbw : wb.heap.size ≤ b := by omega
  have hws : w.heap.size ≤ wb.heap.size := by omega
  have hg7lt := hg7.lt
  obtain ⟨g7, hg7e⟩ : ∃ g7, g7 = b + 1 + 1 := ⟨_, rfl⟩
  have hg71 : b + 1 < g7 := by omega
  rw [show b + 2 = g7 by omega] at hg7 hg7lt
  rw [← hg7e]
  clear hW3 hmm hmk hb hbn hbs hg7e
  have HGX := Lib.hid hgx
  go_loopw [8, 29] (fun uv iv wr => ∃ (i u cnt' : Nat) (pre : List (Option Nat)), i ≤ t.Trips.length ∧ iv = .int .i64 (i : Int) ∧ uv = .int .i64 (u : Int) ∧ u < 4096 ∧ Hid (blkBs t f = pre ++ befGo t.Trips.length (folT t f) (ddT t f) (t.Trips.length - i) u ∧ pre.length = i) ∧ Hid (Blk wr (g7) 3 (rowA (rowB t.Trips.length i pre))) ∧ Hid (MemoOK (memoF t f) wr b cnt') ∧ Hid (cnt' ≤ i * 28000000000000) ∧ Hid (Touch [b, g7] W3 wr)) (fun _ iv _ => t.Trips.length - (intOf iv).toNat)
  case atStart => exact ⟨0, 0, 0, [], by omega, rfl, rfl, by omega, Lib.hid ⟨by simp [blkBs], rfl⟩, Lib.hid (by simpa [rowB] using hg7), Lib.hid hM3, Lib.hid (by omega), Lib.hid Touch.refl_⟩
  case round =>
    obtain ⟨i, u, cnt', pre, hi, rfl, rfl, hu, HP, h7, hM, hcn, hT⟩ := hrel
    have hP1 := HP.out.1
    have hP2 := HP.out.2
    by_cases hlt : i < t.Trips.length
    · obtain ⟨r, hr⟩ : ∃ r, r = t.Trips.length - (i + 1) := ⟨_, rfl⟩
      have hir : i + (r + 1) = t.Trips.length := by omega
      rw [show t.Trips.length - i = r + 1 by omega] at hP1
      simp only [befGo] at hP1
      have HP1 := Lib.hid hP1
      have hcell := h7.out.rowAts (k := i) (v := 0) (by unfold rowB; rw [List.getElem?_append_right (by simp [hP2]), List.length_map, hP2, Nat.sub_self, List.getElem?_replicate, if_pos (by omega)])
      have hfz : ∀ (j : Nat) (W : World) [Later wr W], W.frozen? ⟨g7, j, none⟩ = false := fun j W hW => (h7.out.later hW).frozen j
      obtain ⟨W4, hW4⟩ : ∃ W4 : World, W4 = wr.setCell ⟨g7, i, none⟩ (.int .i64 (-1)) := ⟨_, rfl⟩
      have h74 : Blk W4 (g7) 3 (rowA (rowB t.Trips.length (i + 1) (pre ++ [none]))) := by rw [hW4, ← rowB_set hP2 hlt]; exact h7.out.rowSet _
      have hM4 : MemoOK (memoF t f) W4 b cnt' := by rw [hW4]; exact hM.out.touch (fp := [g7]) (Touch.refl_.set_ (by simp) _ _) (by simp; omega)
      have hT4 : Touch [b, g7] W3 W4 := by rw [hW4]; exact hT.out.set_ (by simp) _ _
      have L4 := hT4.later L3 (fun g hg => by simp at hg; omega)
      have hgx4 := hT4.blk HGX.out (by simp; omega)
      have hT4H := Lib.hid hT4
      have HP2 := Lib.hid hP2
      have h74H := Lib.hid h74
      have hgx4H := Lib.hid hgx4
      have hb4 : g7 < W4.heap.size := h74.lt
      obtain ⟨c1, d1, hcd1⟩ : ∃ c1 d1, lkT t f (r + 1) u = (c1, d1) := ⟨_, _, rfl⟩
      obtain ⟨c2, d2, hcd2⟩ : ∃ c2 d2, lkT t f r u = (c2, d2) := ⟨_, _, rfl⟩
      have HC1 := Lib.hid hcd1
      have HC2 := Lib.hid hcd2
      have hn1 := NB_le2 (r := r + 1) (by omega)
      have hn2 := NB_le2 (r := r) (by omega)
      obtain ⟨n1, hn1e⟩ : ∃ n1, n1 = NB (r + 1) := ⟨_, rfl⟩
      obtain ⟨n2, hn2e⟩ : ∃ n2, n2 = NB r := ⟨_, rfl⟩
      rw [← hn1e] at hn1
      rw [← hn2e] at hn2
      have HN1 := Lib.hid hn1e
      have HN2 := Lib.hid hn2e
      have hcn1 := hcn.out
      have hwi : IntKind.i64.wrap ((i : Int) + 1) = (i : Int) + 1 := by rw [IntKind.wrap_i64]; omega
      obtain ⟨z, hz⟩ : ∃ z, z = lnkC (c2, d2) (c1, d1) := ⟨_, rfl⟩
      have HZ := Lib.hid hz.symm
      clear hz hP1 hP2 hcd1 hcd2 hn1e hn2e hr hT4 h74 hgx4 HP h7 hM hT hcn
      go_wp2_with fail
      rw [← hW4]
      clear hW4
      refine ((HBS.out (r + 1)).1 W4 _ _ i u cnt' rfl rfl hir hu (hwb0.trans L4) (hwb2.trans L4) hgx4H.out hM4 (by rw [← HN1.out]; omega)).mono ?_
      rw [HC1.out, ← HN1.out]
      rintro e w5 ⟨rfl, hM5, hT5⟩
      have L5 := hT5.later L4 (fun g hg => by simp at hg; omega)
      have hgx5 := hT5.blk hgx4H.out (by simp)
      have h75 := hT5.blk h74H.out (by simp; omega)
      have hz5 := h75.lt
      obtain ⟨W6, hW6⟩ : ∃ W6 : World, W6 = w5.alloc (.cells #[.int .i64 c1, .int .i64 d1] 153) := ⟨_, rfl⟩
      obtain ⟨g10, hg10⟩ : ∃ g10, g10 = w5.heap.size := ⟨_, rfl⟩
      have h10 : Blk W6 g10 153 #[.int .i64 c1, .int .i64 d1] := by rw [hW6, hg10]; exact Blk.new _ _ _
      haveI L6 : Later w5 W6 := by rw [hW6]; infer_instance
      have hM6 := hM5.later L6
      have hgx6 := hgx5.later L6
      have h76 := h75.later L6
      have L6b := L5.trans L6
      have hT6 : Touch [b, g7] W3 W6 := (hT4H.out.trans (hT5.mono (by simp))).trans (Touch.of_later L6)
      have hT6H := Lib.hid hT6
      have h76H := Lib.hid h76
      have hgx6H := Lib.hid hgx6
      have HB10 := Lib.hid h10
      have h10c := Touch.cells (fp := [b]) h10 (by simp; omega)
      have hg10b : g7 < g10 := by omega
      clear hT6 h76 hgx6 hgx5 h75 hT5 hM5 hM4 hgx4H h74H hT4H h10
      go_wp2_with fail
      rw [← hW6, ← hg10]
      clear hW6 hg10
      refine wp_region_held_drew (S := (fun w' => Touch [b] W6 w')) (by kernel_rfl) (by first | exact Touch.of_later inferInstance | exact (Touch.of_later inferInstance).trans hT7 | exact ((Touch.of_later inferInstance).trans hT7).trans (Touch.of_later inferInstance)) (fun hHeld => ?_)
      refine wpAnyH_take (i := 0) (v := ?_) (by simp only [List.getElem?_toArray, List.getElem?_cons_zero] <;> rfl) (by kernel_rfl) (by kernel_rfl) (by kernel_rfl) (by exact fun _ _ _ h => h) (Or.inl ⟨by kernel_rfl, ?_⟩) (by assumption) ?_
      rotate_left
      · intro w' hSw; (try dsimp only at hSw); go_simp; try with_reducible rfl
      try simp only [Act.put, List.setIfInBounds_toArray, List.set_cons_zero, List.set_cons_succ]
      refine wpAnyH_take (i := 1) (v := ?_) (by simp only [List.getElem?_toArray, List.getElem?_cons_succ, List.getElem?_cons_zero] <;> rfl) (by kernel_rfl) (by kernel_rfl) (by kernel_rfl) (by exact fun _ _ _ h => h) (Or.inl ⟨by kernel_rfl, ?_⟩) (by assumption) ?_
      rotate_left
      · intro w' hSw; (try dsimp only at hSw); go_simp; try with_reducible rfl
      try simp only [Act.put, List.setIfInBounds_toArray, List.set_cons_zero, List.set_cons_succ]
      refine wpAnyH_take (i := 2) (v := ?_) (by simp only [List.getElem?_toArray, List.getElem?_cons_succ, List.getElem?_cons_zero] <;> rfl) (by kernel_rfl) (by kernel_rfl) (by kernel_rfl) (by exact fun _ _ _ h => h) (Or.inl ⟨by kernel_rfl, ?_⟩) (by assumption) ?_
      rotate_left
      · intro w' hSw; (try dsimp only at hSw); go_simp; try with_reducible rfl
      try simp only [Act.put, List.setIfInBounds_toArray, List.set_cons_zero, List.set_cons_succ]
      refine wpAnyH_take (i := 4) (v := ?_) (by simp only [List.getElem?_toArray, List.getElem?_cons_succ, List.getElem?_cons_zero] <;> rfl) (by kernel_rfl) (by kernel_rfl) (by kernel_rfl) (by exact fun _ _ _ h => h) (Or.inl ⟨by kernel_rfl, ?_⟩) (by assumption) ?_
      rotate_left
      · intro w' hSw; (try dsimp only at hSw); go_simp; try with_reducible rfl
      try simp only [Act.put, List.setIfInBounds_toArray, List.set_cons_zero, List.set_cons_succ]
      refine wpAnyH_ready (rs := [3]) (by kernel_rfl) (by simp) (AllReadyH.cons rfl (fun K hK => ?_) AllReadyH.nil)
      go_simp
      (go_at_call 101; go_loud (refine ((HBS.out r).1 _ _ _ (i + 1) u (cnt' + n1) (by omega) rfl (by omega) hu ((hwb0.trans L6b).trans inferInstance) ((hwb2.trans L6b).trans inferInstance) (hgx6H.out.later inferInstance) (hM6.later inferInstance) (by rw [← HN2.out]; omega)).mono ?_; rw [HC2.out, ← HN2.out]; rintro e w7 ⟨rfl, hM7, hT7⟩))
      refine hK.out _ _ (by first | exact Touch.of_later inferInstance | exact (Touch.of_later inferInstance).trans hT7 | exact ((Touch.of_later inferInstance).trans hT7).trans (Touch.of_later inferInstance)) (fun hHeld => ?_)
      try simp only [Act.put, List.setIfInBounds_toArray, List.set_cons_zero, List.set_cons_succ]
      refine wpAnyH_ready (rs := [5]) (by kernel_rfl) (by simp) (AllReadyH.cons rfl (fun K hK => ?_) AllReadyH.nil)
      go_simp
      (go_at_call 102; go_loud (refine (impl_compareLinks c2 d2 c1 d1 _).mono ?_; rw [HZ.out]; rintro e w8 ⟨rfl, L8⟩; have V8 := Later.trans (w := w7) inferInstance L8))
      refine hK.out _ _ (by first | exact Touch.of_later inferInstance | exact (Touch.of_later inferInstance).trans hT7 | exact ((Touch.of_later inferInstance).trans hT7).trans (Touch.of_later inferInstance)) (fun hHeld => ?_)
      try simp only [Act.put, List.setIfInBounds_toArray, List.set_cons_zero, List.set_cons_succ]
      refine wpAnyH_take (i := 6) (v := ?_) (by simp only [List.getElem?_toArray, List.getElem?_cons_succ, List.getElem?_cons_zero] <;> rfl) (by kernel_rfl) (by kernel_rfl) (by kernel_rfl) (by exact fun _ _ _ h => h) (Or.inl ⟨by kernel_rfl, ?_⟩) (by assumption) ?_
      rotate_left
      · intro w' hSw; (try dsimp only at hSw); go_simp; try with_reducible rfl
      try simp only [Act.put, List.setIfInBounds_toArray, List.set_cons_zero, List.set_cons_succ]
      refine wpAnyH_done (by kernel_rfl) ?_ _
      have hT68 : Touch [b] W6 w8 := ((Touch.of_later inferInstance).trans hT7).trans (Touch.of_later L8)
      have hM8 := hM7.later L8
      haveI L8b : Later wb w8 := hT68.later L6b (fun g hg => by simp at hg; omega)
      have HT68 := Lib.hid hT68
      clear hT68 hT7 hM7
      by_cases he : (c2, d2) = (c1, d1)
      · have hz0 : z = 0 := by rw [← HZ.out]; exact (lnkC_eq _ _).2 he
        have hbf : befOf t.Trips.length (folT t f) (ddT t f) r u = none := if_pos (HC2.out.trans (he.trans HC1.out.symm))
        have HB := Lib.hid hbf
        subst hz0
        clear he hbf
        go_wp2
        go_roundw
        case rel =>
          refine ⟨i + 1, u, cnt' + n1 + n2, pre ++ [none], by omega, by go_num, rfl, hu, Lib.hid ⟨?_, by rw [List.length_append, HP2.out]; rfl⟩, Lib.hid (HT68.out.blk h76H.out (by simp; omega)), Lib.hid hM8, Lib.hid (by omega), Lib.hid (hT6H.out.trans (HT68.out.mono (by simp)))⟩
          rw [HP1.out, HB.out, show t.Trips.length - (i + 1) = r by omega, List.append_assoc]
          rfl
        case measure => simp [intOf]; omega
      · have hz0 : ¬ z = 0 := by rw [← HZ.out]; exact fun e => he ((lnkC_eq _ _).1 e)
        have hz1 := (beqi_f hz0).1
        have hz2 := (beqi_f hz0).2
        have hne : ¬ lkT t f r u = lkT t f (r + 1) u := fun e => he (HC2.out.symm.trans (e.trans HC1.out))
        have hbf : (List.range t.Trips.length).find? (hitI t.Trips.length (folT t f) (ddT t f) r u) = befOf t.Trips.length (folT t f) (ddT t f) r u := (if_neg hne).symm
        have HBF := Lib.hid hbf
        have HNE := Lib.hid hne
        clear he hbf hne
        go_wp2_with fail
        simp only [hz1]
        go_loopw [8, 48] (fun uv av wr => ∃ a cn2 : Nat, a ≤ t.Trips.length ∧ av = .int .i64 (a : Int) ∧ uv = .int .i64 (u : Int) ∧ Hid (((List.range t.Trips.length).drop a).find? (hitI t.Trips.length (folT t f) (ddT t f) r u) = befOf t.Trips.length (folT t f) (ddT t f) r u) ∧ Hid (MemoOK (memoF t f) wr b cn2) ∧ Hid (cn2 ≤ cnt' + 4000000000000 + a * 2000000000000) ∧ Hid (Touch [b] w8 wr)) (fun _ av _ => t.Trips.length - (intOf av).toNat)
        case atStart => exact ⟨0, _, by omega, rfl, rfl, Lib.hid (by rw [List.drop_zero]; exact HBF.out), Lib.hid hM8, Lib.hid (by omega), Lib.hid Touch.refl_⟩
        case round =>
          obtain ⟨a, cn2, ha, rfl, rfl, HF, hM2, hcn2, hT2⟩ := hrel
          have hT62 := HT68.out.trans hT2.out
          have hgx2 := hT62.blk hgx6H.out (by simp)
          have h102 := hT62.blk HB10.out (by simp; omega)
          have h72 := hT62.blk h76H.out (by simp; omega)
          haveI L2b : Later wb wr := hT62.later L6b (fun g hg => by simp at hg; omega)
          have hT62H := Lib.hid hT62
          have hgx2H := Lib.hid hgx2
          have h72H := Lib.hid h72
          have hcn3 := hcn2.out
          clear hT62 hgx2 h72 hcn2
          by_cases hal : a < t.Trips.length
          · obtain ⟨c3, d3, ok3, hav⟩ : ∃ c3 d3 ok3, aftV t f r i a u = ((c3, d3), ok3) := ⟨_, _, _, rfl⟩
            have HAV := Lib.hid hav
            have hF1 := HF.out
            rw [hit_drop hal] at hF1
            have HF1 := Lib.hid hF1
            clear hF1 HF hav
            cases ok3 with
            | false =>
              have hno : ¬ hitI t.Trips.length (folT t f) (ddT t f) r u a = true := fun e => by have h9 := ((hit_aft hir).1 e).1; rw [HAV.out] at h9; cases h9
              have hF2 := HF1.out
              rw [if_neg hno] at hF2
              have HF2 := Lib.hid hF2
              clear HF1 hF2 hno
              go_wp2_with (go_at_call 103; go_loud (refine ((HBS.out r).2 wr _ _ _ i a u cn2 rfl rfl rfl hir hal hu (hwb0.trans L2b) (hwb2.trans L2b) hgx2H.out hM2.out (by rw [← HN2.out]; omega)).mono ?_; rw [HAV.out, ← HN2.out]; rintro e w9 ⟨rfl, hM9, hT9⟩; haveI L9b : Later wb w9 := hT9.later L2b (fun g hg => by simp at hg; omega); have h109 := hT9.blk h102 (by simp; omega); have c109 : ∀ W' [Later w9 W'] (j : Nat), W'.cell? ⟨g10, j, none⟩ = (#[.int .i64 c1, .int .i64 d1] : Array Value)[j]? := (fun W' hW' j => (h109.later hW').cell j)))
              go_roundw
              case rel => exact ⟨a + 1, cn2 + n2, by omega, by go_num, rfl, HF2, Lib.hid (hM9.later inferInstance), Lib.hid (by omega), Lib.hid ((hT2.out.trans hT9).trans (Touch.of_later inferInstance))⟩
              case measure => simp [intOf]; omega
            | true =>
              obtain ⟨z2, hz2⟩ : ∃ z2, z2 = lnkC (c3, d3) (c1, d1) := ⟨_, rfl⟩
              have HZ2 := Lib.hid hz2.symm
              clear hz2
              by_cases he2 : (c3, d3) = (c1, d1)
              · have hhit : hitI t.Trips.length (folT t f) (ddT t f) r u a = true := (hit_aft hir).2 ⟨by rw [HAV.out], by rw [HAV.out, HC1.out]; exact he2⟩
                have hF2 := HF1.out
                rw [if_pos hhit] at hF2
                have HF2 := Lib.hid hF2.symm
                have hzz : z2 = 0 := by rw [← HZ2.out]; exact (lnkC_eq _ _).2 he2
                subst hzz
                have ha12 : a < 12 := by omega
                have hor := or_nat (u := u) (v := 2 ^ a) (by omega) (by have := pow12 ha12; omega)
                have hu2 := or12 hu ha12
                obtain ⟨v, hv2⟩ : ∃ v, v = u ||| 2 ^ a := ⟨_, rfl⟩
                rw [← hv2] at hor hu2
                have hor2 : bits BinOp.or IntKind.i64 (u : Int) (wrap64 (2 ^ a)) = (v : Int) := by
                  rw [show wrap64 (2 ^ a) = ((2 ^ a : Nat) : Int) from by rw [← wrap_64]; simpa using shl12 ha12]
                  exact hor
                have HV2 := Lib.hid hv2
                have hci : (rowB t.Trips.length (i + 1) (pre ++ [none]))[i]? = some (-1) := by
                  have hp9 : pre.length = i := HP2.out
                  unfold rowB
                  rw [List.map_append, List.getElem?_append_left (by simp [hp9]), List.getElem?_append_right (by simp [hp9]), List.length_map, hp9, Nat.sub_self]
                  rfl
                have HCI := Lib.hid hci
                clear HF1 hF2 hhit hor hv2 hci he2
                go_wp2_with first
                  | ((go_at_call 103; go_loud (refine ((HBS.out r).2 wr _ _ _ i a u cn2 rfl rfl rfl hir hal hu (hwb0.trans L2b) (hwb2.trans L2b) hgx2H.out hM2.out (by rw [← HN2.out]; omega)).mono ?_; rw [HAV.out, ← HN2.out]; rintro e w9 ⟨rfl, hM9, hT9⟩; haveI L9b : Later wb w9 := hT9.later L2b (fun g hg => by simp at hg; omega); have h109 := hT9.blk h102 (by simp; omega); have c109 : ∀ W' [Later w9 W'] (j : Nat), W'.cell? ⟨g10, j, none⟩ = (#[.int .i64 c1, .int .i64 d1] : Array Value)[j]? := (fun W' hW' j => (h109.later hW').cell j))); have h79 := hT9.blk h72H.out (by simp; omega); have c79 := h79.rowAts HCI.out; have f79 : ∀ (j : Nat) (W' : World) [Later w9 W'], W'.frozen? ⟨g7, j, none⟩ = false := (fun j W' hW' => (h79.later hW').frozen j))
                  | (go_at_call 102; go_loud (refine (impl_compareLinks c3 d3 c1 d1 _).mono ?_; rw [HZ2.out]; rintro e w10 ⟨rfl, L10⟩; have U10 := Later.trans (w := w9) inferInstance L10))
                go_roundw
                case rel =>
                  refine ⟨i + 1, v, cn2 + n2, pre ++ [some a], by omega, by go_num, rfl, hu2, Lib.hid ⟨?_, by rw [List.length_append, HP2.out]; rfl⟩, Lib.hid ?_, Lib.hid ((hM9.later U10).touch (fp := [g7]) (Touch.refl_.set_ (by simp) _ _) (by simp; omega)), Lib.hid (by omega), Lib.hid ((((hT6H.out.trans (hT62H.out.mono (by simp))).trans (hT9.mono (by simp))).trans (Touch.of_later U10)).set_ (by simp) _ _)⟩
                  · rw [HP1.out, HF2.out, show t.Trips.length - (i + 1) = r by omega, List.append_assoc, HV2.out]
                    rfl
                  · rw [← rowB_set2 HP2.out none (some a)]
                    exact (h79.later U10).rowSet _
                case measure => simp [intOf]; omega
              · have hno : ¬ hitI t.Trips.length (folT t f) (ddT t f) r u a = true := fun e => by have h9 := ((hit_aft hir).1 e).2; rw [HAV.out, HC1.out] at h9; exact he2 h9
                have hF2 := HF1.out
                rw [if_neg hno] at hF2
                have HF2 := Lib.hid hF2
                have hzz : ¬ z2 = 0 := by rw [← HZ2.out]; exact fun e => he2 ((lnkC_eq _ _).1 e)
                have hzz1 := (beqi_f hzz).1
                have hzz2 := (beqi_f hzz).2
                clear HF1 hF2 hno he2
                go_wp2_with first
                  | (go_at_call 103; go_loud (refine ((HBS.out r).2 wr _ _ _ i a u cn2 rfl rfl rfl hir hal hu (hwb0.trans L2b) (hwb2.trans L2b) hgx2H.out hM2.out (by rw [← HN2.out]; omega)).mono ?_; rw [HAV.out, ← HN2.out]; rintro e w9 ⟨rfl, hM9, hT9⟩; haveI L9b : Later wb w9 := hT9.later L2b (fun g hg => by simp at hg; omega); have h109 := hT9.blk h102 (by simp; omega); have c109 : ∀ W' [Later w9 W'] (j : Nat), W'.cell? ⟨g10, j, none⟩ = (#[.int .i64 c1, .int .i64 d1] : Array Value)[j]? := (fun W' hW' j => (h109.later hW').cell j)))
                  | (go_at_call 102; go_loud (refine (impl_compareLinks c3 d3 c1 d1 _).mono ?_; rw [HZ2.out]; rintro e w10 ⟨rfl, L10⟩; have U10 := Later.trans (w := w9) inferInstance L10))
                go_roundw
                case rel => exact ⟨a + 1, cn2 + n2, by omega, by go_num, rfl, HF2, Lib.hid (hM9.later inferInstance), Lib.hid (by omega), Lib.hid ((hT2.out.trans hT9).trans (Touch.of_later inferInstance))⟩
                case measure => simp [intOf]; omega
          · obtain rfl : a = t.Trips.length := by omega
            have h9 := HF.out
            rw [(List.drop_eq_nil_of_le (by simp) : (List.range t.Trips.length).drop t.Trips.length = [])] at h9
            obtain ⟨a0, ha0⟩ := bef_ne HNE.out
            rw [show befOf t.Trips.length (folT t f) (ddT t f) r u = some a0 from ha0] at h9
            cases h9
    · obtain rfl : i = t.Trips.length := by omega
      have hbs : blkBs t f = pre := by rw [hP1, Nat.sub_self]; simp [befGo]
      have h7b : Blk wr g7 3 (rowA ((blkBs t f).map bI)) := by
        have h9 := h7.out
        unfold rowB at h9
        rw [Nat.sub_self] at h9
        rw [hbs]
        simpa using h9
      have hBL := blkBs_len t f
      have hLK := Lib.hid (blkLinks rf)
      have hb64 : ∀ v, v ∈ (blkBs t f).map bI → I64 v := by
        intro v hv
        obtain ⟨o, ho, rfl⟩ := List.mem_map.1 hv
        cases o with
        | none => show I64 (-1); unfold I64; omega
        | some a =>
          obtain ⟨j, hj⟩ := List.getElem?_of_mem ho
          have := (hLK.out.lt j a hj).1
          show I64 (a : Int)
          unfold I64; omega
      have hI7 := Lib.hid (h7b.ints (n := t.Trips.length) (by rw [List.length_map, hBL]) (by omega) hb64)
      obtain ⟨w11, rfl⟩ : ∃ w11 : World, w11 = wr := ⟨_, rfl⟩
      haveI L11 : Later wb w11 := hT.out.later L3 (fun g hg => by simp at hg; omega)
      have hgx11 := Lib.hid (hT.out.blk HGX.out (by simp; omega))
      have hb11 : b < w11.heap.size := hM.out.lt
      have hg11 : b + 1 < w11.heap.size := hgx11.out.lt
      have H7B := Lib.hid h7b
      have HTR := Lib.hid (h.l_Trips.later hwb0)
      have hn12 := NB_le2 (r := t.Trips.length) hlen
      have hcn9 := hcn.out
      have hbest := Lib.hid ((HBS.out t.Trips.length).1)
      have HTF := Lib.hid rf.time
      clear hbs h7b hb64 h7 HP hP1 hP2 hT hcn
      go_wp2_with fail
      go_loopw [14, 78] (fun ov kv ws => ∃ k : Nat, k ≤ t.Trips.length ∧ kv = .int .i64 (k : Int) ∧ Hid (ORows ws w11.heap.size 67 ov (blkUp t f k)) ∧ Later w11 ws) (fun _ kv _ => t.Trips.length - (intOf kv).toNat)
      case atStart => exact ⟨0, by omega, rfl, Lib.hid (ORows.nil_ _ _ _), inferInstance⟩
      case round =>
        obtain ⟨k, hk, rfl, hown, hX⟩ := hrel
        haveI hXb := L11.trans hX
        by_cases hlt : k < t.Trips.length
        · obtain ⟨o, ho⟩ : ∃ o, (blkBs t f)[k]? = some o := ⟨_, List.getElem?_eq_getElem (by omega)⟩
          have hcb := H7B.out.rowAts (k := k) (v := bI o) (by rw [List.getElem?_map, ho]; rfl)
          cases o with
          | some a =>
            have hup := Lib.hid (blkUp_no ho)
            have hbi : bI (some a) = (a : Int) := rfl
            rw [hbi] at hcb
            clear ho hbi
            go_wp2
            go_roundw
            case rel => exact ⟨k + 1, by omega, by go_num, by rw [hup.out]; exact hown, inferInstance⟩
            case measure => simp [intOf]; omega
          | none =>
            have hup := Lib.hid (blkUp_yes ho)
            have hbi : bI none = -1 := rfl
            rw [hbi] at hcb
            have hlen9 : (blkUp t f k).length ≤ 1073741824 := by have := blkUp_len t f k; omega
            obtain ⟨wq, rfl⟩ : ∃ wq : World, wq = wr := ⟨_, rfl⟩
            have hqs := hX.size
            clear ho hbi
            go_wp2_with fail
            go_loopw [16, 17] (fun pv av ws => ∃ (done : List Nat) (cur : Option Nat), av = .int .i64 (bI cur) ∧ Hid (done ++ chainO (blkBs t f) cur = chain (blkBs t f) k) ∧ Hid (∀ a, cur = some a → a < t.Trips.length) ∧ Hid (∀ a, a ∈ done → a < t.Trips.length) ∧ Hid (ws.ownsRow wq.heap.size 3 1 pv done.length ((done.map fun (k : Nat) => (tripI t (k : Int)).Id).map (Value.int .i64))) ∧ Later wq ws) (fun _ av _ => mO (blkBs t f) (intOf av))
            case atStart => exact ⟨[], some k, rfl, Lib.hid rfl, Lib.hid (fun a e => by cases e; exact hlt), Lib.hid (by simp), Lib.hid ⟨rfl, .inl ⟨rfl, rfl⟩⟩, inferInstance⟩
            case round =>
              obtain ⟨done, cur, rfl, HD, HC, HDN, hrow, hY⟩ := hrel
              haveI hYb := hXb.trans hY
              haveI hY11 := hX.trans hY
              have hdl : done.length ≤ 1073741824 := by
                have h9 := chain_len (blkBs t f) ((blkBs t f).length + 1) k
                have h8 := congrArg List.length HD.out
                rw [List.length_append] at h8
                unfold chain at h8
                omega
              cases cur with
              | none =>
                have hbi : bI none = -1 := rfl
                rw [hbi]
                have hfin := HD.out
                simp only [chainO, List.append_nil] at hfin
                have hids : (done.map fun (k : Nat) => (tripI t (k : Int)).Id) = blkIds t f k := by rw [hfin]; rfl
                have hrow2 := hrow.out
                rw [hids] at hrow2
                have hdl2 : done.length = (blkIds t f k).length := by rw [← hids, List.length_map]
                rw [hdl2] at hrow2
                obtain ⟨A9, c9, fp9, rfl, ho9, hnd9, hlo9⟩ := OSl.ints_of_own hrow2 (fun y hy => by
                  rw [← hids] at hy
                  obtain ⟨a9, ha9, rfl⟩ := List.mem_map.1 hy
                  have h8 := List.getElem?_eq_getElem (HDN.out a9 ha9)
                  rw [tripI_of h8]
                  have := (HTF.out.trip a9 _ h8).id
                  unfold I64; omega)
                have HO9 := Lib.hid ho9
                have HLO9 := Lib.hid hlo9
                clear hbi hfin hids hrow2 hrow HD HDN ho9 hlo9
                go_wp2_with (at_builtin; go_loud (refine wpList_app_R rfl _ _ 29 rfl Try.underlying29 infoRow (by decide) (w0 := w11) (w1 := wq) rfl hown.out inferInstance inferInstance (Nat.le_refl _) hqs (HO9.out.later inferInstance) hnd9 HLO9.out (by first | rfl | simp) hlen9 ?_; intro v' w9 hown' hX9))
                go_roundw
                case rel => exact ⟨k + 1, by omega, by go_num, Lib.hid (by rw [hup.out]; exact hown'), hX9⟩
                case measure => simp [intOf]; omega
              | some a =>
                have hat := HC.out a rfl
                have hbi : bI (some a) = (a : Int) := rfl
                rw [hbi]
                have hst := chain_step hLK.out a
                have hD2 := HD.out
                rw [show chainO (blkBs t f) (some a) = chain (blkBs t f) a from rfl, hst] at hD2
                have HD2 := Lib.hid hD2
                have HMS : Hid (mO (blkBs t f) (bI (nxt (blkBs t f) a)) < mO (blkBs t f) (a : Int)) := by show _ < _; rw [mO_bI, mO_some, hst]; simp
                obtain ⟨b1, o1, x, rfl, hx, hx0, _, _, hxo⟩ := Trips.at_ HTR.out hat
                have HXI := Lib.hid (tripI_of hx.out)
                have HNX := Lib.hid (nxt_idx hLK.out a)
                have hrow2 := hrow.out
                obtain ⟨A8, c8, hv8⟩ := own_shape hrow2
                subst hv8
                clear hbi hst hD2 HD hx hxo hrow
                have HROW := Lib.hid hrow2
                clear hrow2
                go_wp2_with first
                  | (go_at_call 104; go_loud (refine (slices_IndexInt hI7.out inferInstance _).mono ?_; rw [HNX.out]; rintro e w10 ⟨rfl, L10⟩; have V10 := Later.trans (w := w9) inferInstance L10; have Q10 := Later.trans (w := wq) inferInstance L10))
                  | (at_builtin; go_loud (refine wpList_app_B rfl _ _ 67 rfl Try.underlying67 infoInt rfl (by decide) (by decide) (base := wq.heap.size) (w0 := wq) rfl (by exact ownsRow_later HROW.out (inferInstance : Later wr _)) inferInstance (Nat.le_refl _) (Later.size (w := wq) inferInstance) (by first | rfl | simp) rfl (one_cell _ _) hdl ?_; intro v' w9 hown' hX9; haveI hX9b := hXb.trans hX9; haveI hX911 := hX.trans hX9))
                go_roundw
                case rel =>
                  refine ⟨done ++ [a], nxt (blkBs t f) a, rfl, Lib.hid ?_, Lib.hid (fun k9 e9 => by rw [← hBL]; exact nxt_lt e9), Lib.hid ?_, Lib.hid ?_, inferInstance⟩
                  · rw [List.append_assoc]; exact HD2.out
                  · intro k9 hk9
                    rcases List.mem_append.1 hk9 with hk9 | hk9
                    · exact HDN.out k9 hk9
                    · simp at hk9; subst hk9; exact hat
                  · rw [List.map_append, List.map_append, List.length_append]
                    have h9 := ownsRow_later hown' V10
                    simpa [HXI.out] using h9
                case measure => exact HMS.out
        · obtain rfl : k = t.Trips.length := by omega
          obtain ⟨A9, c9, fp9, rfl, ho9, hnd9, hlo9⟩ := hown.out.shut
          have HO9 := Lib.hid ho9
          have HLO9 := Lib.hid hlo9
          clear ho9 hlo9
          have hfld : ∀ (x y : Int) (w : World), (Instr.field 153 (.agg #[.int .i64 x, .int .i64 y]) 1).run Try.prog w = .ok (.int .i64 y) w := fun _ _ _ => by kernel_rfl
          go_wp2_with (go_at_call 101; go_loud (refine (hbest.out wr _ _ 0 0 cnt' rfl rfl (by omega) (by omega) (hwb0.trans hXb) (hwb2.trans hXb) (hgx11.out.later hX) (hM.out.later hX) (by omega)).mono ?_; rintro e w12 ⟨rfl, hM12, hT12⟩; haveI L12 : Later wb w12 := hT12.later hXb (fun g hg => by simp at hg; omega)))
          go_ret2
          exact ⟨A9, _, c9, fp9, rfl, HO9.out.touch hT12 (fun g hg hg2 => by have := HLO9.out g hg; simp at hg2; omega), hnd9, fun g hg => by have := HLO9.out g hg; omega, hww.trans L12⟩
end Go.Proofs.Ytaopadffabbjiaa
