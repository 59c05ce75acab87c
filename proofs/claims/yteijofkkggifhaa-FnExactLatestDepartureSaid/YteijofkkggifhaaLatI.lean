/-
  LatestDeparture, in the program.
-/
import Derived.Test.YteijofkkggifhaaLatS
import Derived.Test.YteijofkkggifhaaBackw
import Derived.Test.YteijofkkggifhaaArrB
import Derived.Test.YteijofkkggifhaaDeps
namespace Go.Proofs.Yteijofkkggifhaa
open Go Go.RowKit Go.Shelf
set_option linter.unusedVariables false
set_option maxRecDepth 100000
set_option linter.unusedSimpArgs false
attribute [local go_sem] Oper.semAt_some
theorem small_atL {n : Nat} {from_ d : Int} (h0 : 0 ≤ d) (h1 : d ≤ 2099) : Small (readyL n from_ d) := by
  intro v hv
  unfold readyL at hv
  rcases List.mem_or_eq_of_mem_set hv with h1' | h1'
  · rw [List.eq_of_mem_replicate h1']; unfold never; omega
  · subst h1'; omega
abbrev Dep := Nat × { v : Int // 0 ≤ v ∧ v ≤ 2099 }
def encD (x : Dep) : Array Value := #[.int .i64 (x.1 : Int), .int .i64 x.2.1]
def itD (n : Nat) (zs : List Int) (k : Nat) : Dep := (n - 1 - k, if h : 0 ≤ zs.getD (n - 1 - k) 0 ∧ zs.getD (n - 1 - k) 0 ≤ 2099 then ⟨zs.getD (n - 1 - k) 0, h⟩ else ⟨0, by decide⟩)
theorem itD_val {n : Nat} {zs : List Int} (hn : n = zs.length) (hb : ∀ v, v ∈ zs → 0 ≤ v ∧ v ≤ 2099) {k : Nat} (hk : k < n) : (itD n zs k).2.1 = zs.getD (n - 1 - k) 0 := by
  unfold itD
  rw [dif_pos]
  rw [List.getD_eq_getElem?_getD, List.getElem?_eq_getElem (by omega)]
  exact hb _ (List.getElem_mem _)
theorem itD_enc {n : Nat} {zs : List Int} (hn : n = zs.length) (hb : ∀ v, v ∈ zs → 0 ≤ v ∧ v ≤ 2099) : ∀ k, k < n → encD (itD n zs k) = #[.int .i64 ((n - 1 - k : Nat) : Int), .int .i64 (zs.getD (n - 1 - k) 0)] := fun k hk => by
  show #[Value.int .i64 ((n - 1 - k : Nat) : Int), .int .i64 (itD n zs k).2.1] = _
  rw [itD_val hn hb hk]
/-- What has come, as values: the list from behind. -/
theorem upto_vals {n : Nat} {zs : List Int} (hn : n = zs.length) (hb : ∀ v, v ∈ zs → 0 ≤ v ∧ v ≤ 2099) {k : Nat} (hk : k ≤ n) : (upto (itD n zs) k).map (fun x => x.2.1) = zs.reverse.take k := by
  refine List.ext_getElem? fun i => ?_
  by_cases hi : i < k
  · unfold upto
    rw [List.map_map, List.getElem?_map, List.getElem?_range hi, List.getElem?_take, if_pos hi, List.getElem?_reverse (by omega)]
    show some ((itD n zs i).2.1) = _
    rw [itD_val hn hb (by omega), List.getD_eq_getElem?_getD, ← hn, List.getElem?_eq_getElem (by omega)]; rfl
  · rw [List.getElem?_eq_none (by simp [upto]; omega), List.getElem?_eq_none (by simp; omega)]
theorem find_none {zs : List Int} {P : Int → Bool} {l : List Dep} (h : l.map (fun x => x.2.1) = zs.reverse.take zs.length) (hp : ∀ p, p ∈ l → P p.2.1 = false) : zs.reverse.find? P = none := by
  rw [List.take_of_length_le (by simp)] at h
  rw [← h, List.find?_eq_none]
  intro x hx
  obtain ⟨p, hp', rfl⟩ := List.mem_map.1 hx
  rw [hp p hp']; decide
theorem find_some {zs : List Int} {P : Int → Bool} {l : List Dep} {x : Dep} {k : Nat} (h : (l ++ [x]).map (fun x => x.2.1) = zs.reverse.take k) (hp : ∀ p, p ∈ l → P p.2.1 = false) (hx : P x.2.1 = true) : zs.reverse.find? P = some x.2.1 := by
  have e : zs.reverse = (l.map fun x => x.2.1) ++ (x.2.1 :: zs.reverse.drop k) := by
    refine (List.take_append_drop k zs.reverse).symm.trans ?_
    rw [← h]
    simp
  rw [e, List.find?_append]
  have h0 : (l.map fun x => x.2.1).find? P = none := by
    rw [List.find?_eq_none]
    intro y hy
    obtain ⟨p, hp', rfl⟩ := List.mem_map.1 hy
    rw [hp p hp']; decide
  rw [h0, List.find?_cons, hx]; rfl
theorem keeps_later {w W : World} (h : Later w W) (B : Nat) : KeepsFrom B w W :=
  ⟨h.below.size, fun k o _ hk _ => (h.below.block k (by rcases Nat.lt_or_ge k w.heap.size with c | c; exact c; rw [Array.getElem?_eq_none c] at hk; cases hk)).trans hk⟩
set_option maxRecDepth 100000 in
set_option maxHeartbeats 8000000 in
theorem impl_LatestDeparture {w0 w : World} {sA0 : Option Addr} {sn0 sc0 : Nat} {sA1 : Option Addr} {sn1 sc1 : Nat} {sA2 : Option Addr} {sn2 sc2 : Nat} {t : Timetable} (h : TimetableAt w0 sA0 sn0 sc0 sA1 sn1 sc1 sA2 sn2 sc2 t) (hl : Later w0 w) (change from_ to by_ : Int) : Calls Try.prog 58 #[.agg #[.slice sA0 sn0 sc0, .slice sA1 sn1 sc1, .slice sA2 sn2 sc2], .int .i64 change, .int .i64 from_, .int .i64 to, .int .i64 by_] w (Ret (.tuple #[.int .i64 (latRes t change from_ to by_).1, .bool (latRes t change from_ to by_).2]) w) := by
  have Hl : Hid (sn0 = t.Network.Stops.length) := h.l_Network_Stops.len
  have HB0 : ∀ W [Later (w.alloc (.cells #[.slice sA0 sn0 sc0, .slice sA1 sn1 sc1, .slice sA2 sn2 sc2] 39)) W] (j : Nat), W.cell? ⟨w.heap.size, j, none⟩ = #[.slice sA0 sn0 sc0, .slice sA1 sn1 sc1, .slice sA2 sn2 sc2][j]? := Later.boxes (t := 39) (fr := (0, 0)) (heap_new (by simp; try omega)); obtain ⟨wb, hwb⟩ : ∃ wb : World, wb = (w.alloc (.cells #[.slice sA0 sn0 sc0, .slice sA1 sn1 sc1, .slice sA2 sn2 sc2] 39)) := ⟨_, rfl⟩; haveI hbW : Later wb (w.alloc (.cells #[.slice sA0 sn0 sc0, .slice sA1 sn1 sc1, .slice sA2 sn2 sc2] 39)) := (by rw [hwb]; exact Later.rfl_); haveI hww : Later w wb := (by rw [hwb]; infer_instance); rw [← hwb] at HB0; have hbE := Lib.hid (congrArg (fun x : World => x.heap.size) hwb); clear hwb
  have hwb0 := hl.trans hww
  have H := Lib.hid h
  clear h
  by_cases b1 : okFrom t change from_ by_ = true
  rotate_left
  · have g1 : okFrom t change from_ by_ = false := by simpa using b1
    have HR := Lib.hid (lat_no (t := t) (change := change) (from_ := from_) (to := to) (by_ := by_) (by unfold okPairAt; rw [g1]; rfl))
    rw [HR.out]
    clear b1
    obtain ⟨wp, hwp⟩ : ∃ wp : World, wp = (((((w.alloc (.cells #[.slice sA0 sn0 sc0, .slice sA1 sn1 sc1, .slice sA2 sn2 sc2] 39)).alloc (.cells #[.int .i64 change] 3)).alloc (.cells #[.int .i64 from_] 3)).alloc (.cells #[.int .i64 to] 3)).alloc (.cells #[.int .i64 by_] 3)) := ⟨_, rfl⟩
    obtain ⟨wx, hwx⟩ : ∃ wx : World, wx = ((((((w.alloc (.cells #[.slice sA0 sn0 sc0, .slice sA1 sn1 sc1, .slice sA2 sn2 sc2] 39)).alloc (.cells #[.int .i64 change] 3)).alloc (.cells #[.int .i64 from_] 3)).alloc (.cells #[.int .i64 to] 3)).alloc (.cells #[.int .i64 by_] 3)).alloc (.cells #[.int .i64 0] 3)).alloc (.cells #[.bool false] 4) := ⟨_, rfl⟩
    have HP1 : Blk wp (w.heap.size + 1) 3 #[.int .i64 change] := by rw [hwp]; exact (heap_old (by simp)).trans ((heap_old (by simp)).trans ((heap_old (by simp)).trans (heap_new (by simp))))
    have HP2 : Blk wp (w.heap.size + 2) 3 #[.int .i64 from_] := by rw [hwp]; exact (heap_old (by simp)).trans ((heap_old (by simp)).trans (heap_new (by simp)))
    have HP3 : Blk wp (w.heap.size + 3) 3 #[.int .i64 to] := by rw [hwp]; exact (heap_old (by simp)).trans (heap_new (by simp))
    have HP4 : Blk wp (w.heap.size + 4) 3 #[.int .i64 by_] := by rw [hwp]; exact heap_new (by simp)
    have HR0 : Blk wx (w.heap.size + 5) 3 #[.int .i64 0] := by rw [hwx]; exact (heap_old (by simp)).trans (heap_new (by simp))
    have HR1 : Blk wx (w.heap.size + 6) 4 #[.bool false] := by rw [hwx]; exact heap_new (by simp)
    haveI hpb : Later wb wp := by rw [hwp]; infer_instance
    haveI hpx : Later wp wx := by rw [hwp, hwx]; infer_instance
    haveI hxb : Later wb wx := Later.trans hpb hpx
    haveI hpW : Later wp (((((w.alloc (.cells #[.slice sA0 sn0 sc0, .slice sA1 sn1 sc1, .slice sA2 sn2 sc2] 39)).alloc (.cells #[.int .i64 change] 3)).alloc (.cells #[.int .i64 from_] 3)).alloc (.cells #[.int .i64 to] 3)).alloc (.cells #[.int .i64 by_] 3)) := by rw [hwp]; exact Later.rfl_
    haveI hxW : Later wx (((((((w.alloc (.cells #[.slice sA0 sn0 sc0, .slice sA1 sn1 sc1, .slice sA2 sn2 sc2] 39)).alloc (.cells #[.int .i64 change] 3)).alloc (.cells #[.int .i64 from_] 3)).alloc (.cells #[.int .i64 to] 3)).alloc (.cells #[.int .i64 by_] 3)).alloc (.cells #[.int .i64 0] 3)).alloc (.cells #[.bool false] 4)) := by rw [hwx]; exact Later.rfl_
    have hpz : wp.heap.size = w.heap.size + 5 := by rw [hwp]; simp
    have hxz : wx.heap.size = w.heap.size + 7 := by rw [hwx]; simp
    have hp1 : ∀ W [Later wp W], W.cell? ⟨w.heap.size + 1, 0, none⟩ = some (.int .i64 change) := fun W hW => (HP1.later hW).cell 0
    have hp2 : ∀ W [Later wp W], W.cell? ⟨w.heap.size + 2, 0, none⟩ = some (.int .i64 from_) := fun W hW => (HP2.later hW).cell 0
    have hp3 : ∀ W [Later wp W], W.cell? ⟨w.heap.size + 3, 0, none⟩ = some (.int .i64 to) := fun W hW => (HP3.later hW).cell 0
    have hp4 : ∀ W [Later wp W], W.cell? ⟨w.heap.size + 4, 0, none⟩ = some (.int .i64 by_) := fun W hW => (HP4.later hW).cell 0
    have hlp : Later w wp := Later.trans hww hpb
    haveI hn5 : New wp (w.heap.size + 1 + 1 + 1 + 1 + 1) := ⟨by omega⟩
    haveI hn6 : New wp (w.heap.size + 1 + 1 + 1 + 1 + 1 + 1) := ⟨by omega⟩
    haveI hn5' : New wp (w.heap.size + 5) := ⟨by omega⟩
    haveI hn6' : New wp (w.heap.size + 6) := ⟨by omega⟩
    clear hwp hwx HP1 HP2 HP3 HP4
    go_enter Try.func58, Try.ntmps58
    go_wp2_with first
      | (go_at_call 78; refine (impl_isFrom H.out (hwb0.trans inferInstance) _ _ _).mono ?_; rintro e w1 ⟨rfl, L1⟩; have X1 := Later.trans (w := wb) inferInstance L1; have Y1 := Later.trans (w := wp) inferInstance L1; have Z1 := Later.trans (w := wx) inferInstance L1; have hB0 := HR0.later Z1; have hB1 := HR1.later Z1; have hc0 := fun i => hB0.cell i; have hf0 := fun i => hB0.frozen i; have hc1 := fun i => hB1.cell i; have hf1 := fun i => hB1.frozen i)
      | (go_at_call 79; refine (impl_isStop (r := t.Network) ⟨H.out.l_Network_Stops, H.out.l_Network_Lines⟩ (hwb0.trans inferInstance) _).mono ?_; rintro e w2 ⟨rfl, L2⟩; have X2 := Later.trans (w := wb) inferInstance L2; have Y2 := Later.trans (w := wp) inferInstance L2; have Z2 := Later.trans (w := wx) inferInstance L2; have hB0 := HR0.later Z2; have hB1 := HR1.later Z2; have hc0 := fun i => hB0.cell i; have hf0 := fun i => hB0.frozen i; have hc1 := fun i => hB1.cell i; have hf1 := fun i => hB1.frozen i)
    have HF0 := (hB0.set_ 0 (.int .i64 0)).far (p := ⟨w.heap.size + 6, 0, none⟩) (by simp) (.bool false)
    have HF1 := (hB1.far (p := ⟨w.heap.size + 5, 0, none⟩) (by simp) (.int .i64 0)).set_ 0 (.bool false)
    have hr0 := (HF0.cell 0).trans (show _ = some (.int .i64 0 : Value) from rfl)
    have hr1 := (HF1.cell 0).trans (show _ = some (.bool false : Value) from rfl)
    refine bodyPost_ret (v := .tuple #[.int .i64 0, .bool false]) (by simp [results, Try.results58, go_sem, hr0, hr1]) rfl ?_
    exact ⟨rfl, Later.trans (w := w) hlp inferInstance⟩
  by_cases b3 : inB to 0 ((t.Network.Stops.length : Int) - 1) = true
  rotate_left
  · have g3 : inB to 0 ((t.Network.Stops.length : Int) - 1) = false := by simpa using b3
    have HR := Lib.hid (lat_no (t := t) (change := change) (from_ := from_) (to := to) (by_ := by_) (by unfold okPairAt; rw [g3]; simp))
    rw [HR.out]
    clear b3
    obtain ⟨wp, hwp⟩ : ∃ wp : World, wp = (((((w.alloc (.cells #[.slice sA0 sn0 sc0, .slice sA1 sn1 sc1, .slice sA2 sn2 sc2] 39)).alloc (.cells #[.int .i64 change] 3)).alloc (.cells #[.int .i64 from_] 3)).alloc (.cells #[.int .i64 to] 3)).alloc (.cells #[.int .i64 by_] 3)) := ⟨_, rfl⟩
    obtain ⟨wx, hwx⟩ : ∃ wx : World, wx = ((((((w.alloc (.cells #[.slice sA0 sn0 sc0, .slice sA1 sn1 sc1, .slice sA2 sn2 sc2] 39)).alloc (.cells #[.int .i64 change] 3)).alloc (.cells #[.int .i64 from_] 3)).alloc (.cells #[.int .i64 to] 3)).alloc (.cells #[.int .i64 by_] 3)).alloc (.cells #[.int .i64 0] 3)).alloc (.cells #[.bool false] 4) := ⟨_, rfl⟩
    have HP1 : Blk wp (w.heap.size + 1) 3 #[.int .i64 change] := by rw [hwp]; exact (heap_old (by simp)).trans ((heap_old (by simp)).trans ((heap_old (by simp)).trans (heap_new (by simp))))
    have HP2 : Blk wp (w.heap.size + 2) 3 #[.int .i64 from_] := by rw [hwp]; exact (heap_old (by simp)).trans ((heap_old (by simp)).trans (heap_new (by simp)))
    have HP3 : Blk wp (w.heap.size + 3) 3 #[.int .i64 to] := by rw [hwp]; exact (heap_old (by simp)).trans (heap_new (by simp))
    have HP4 : Blk wp (w.heap.size + 4) 3 #[.int .i64 by_] := by rw [hwp]; exact heap_new (by simp)
    have HR0 : Blk wx (w.heap.size + 5) 3 #[.int .i64 0] := by rw [hwx]; exact (heap_old (by simp)).trans (heap_new (by simp))
    have HR1 : Blk wx (w.heap.size + 6) 4 #[.bool false] := by rw [hwx]; exact heap_new (by simp)
    haveI hpb : Later wb wp := by rw [hwp]; infer_instance
    haveI hpx : Later wp wx := by rw [hwp, hwx]; infer_instance
    haveI hxb : Later wb wx := Later.trans hpb hpx
    haveI hpW : Later wp (((((w.alloc (.cells #[.slice sA0 sn0 sc0, .slice sA1 sn1 sc1, .slice sA2 sn2 sc2] 39)).alloc (.cells #[.int .i64 change] 3)).alloc (.cells #[.int .i64 from_] 3)).alloc (.cells #[.int .i64 to] 3)).alloc (.cells #[.int .i64 by_] 3)) := by rw [hwp]; exact Later.rfl_
    haveI hxW : Later wx (((((((w.alloc (.cells #[.slice sA0 sn0 sc0, .slice sA1 sn1 sc1, .slice sA2 sn2 sc2] 39)).alloc (.cells #[.int .i64 change] 3)).alloc (.cells #[.int .i64 from_] 3)).alloc (.cells #[.int .i64 to] 3)).alloc (.cells #[.int .i64 by_] 3)).alloc (.cells #[.int .i64 0] 3)).alloc (.cells #[.bool false] 4)) := by rw [hwx]; exact Later.rfl_
    have hpz : wp.heap.size = w.heap.size + 5 := by rw [hwp]; simp
    have hxz : wx.heap.size = w.heap.size + 7 := by rw [hwx]; simp
    have hp1 : ∀ W [Later wp W], W.cell? ⟨w.heap.size + 1, 0, none⟩ = some (.int .i64 change) := fun W hW => (HP1.later hW).cell 0
    have hp2 : ∀ W [Later wp W], W.cell? ⟨w.heap.size + 2, 0, none⟩ = some (.int .i64 from_) := fun W hW => (HP2.later hW).cell 0
    have hp3 : ∀ W [Later wp W], W.cell? ⟨w.heap.size + 3, 0, none⟩ = some (.int .i64 to) := fun W hW => (HP3.later hW).cell 0
    have hp4 : ∀ W [Later wp W], W.cell? ⟨w.heap.size + 4, 0, none⟩ = some (.int .i64 by_) := fun W hW => (HP4.later hW).cell 0
    have hlp : Later w wp := Later.trans hww hpb
    haveI hn5 : New wp (w.heap.size + 1 + 1 + 1 + 1 + 1) := ⟨by omega⟩
    haveI hn6 : New wp (w.heap.size + 1 + 1 + 1 + 1 + 1 + 1) := ⟨by omega⟩
    haveI hn5' : New wp (w.heap.size + 5) := ⟨by omega⟩
    haveI hn6' : New wp (w.heap.size + 6) := ⟨by omega⟩
    clear hwp hwx HP1 HP2 HP3 HP4
    go_enter Try.func58, Try.ntmps58
    go_wp2_with first
      | (go_at_call 78; refine (impl_isFrom H.out (hwb0.trans inferInstance) _ _ _).mono ?_; rintro e w1 ⟨rfl, L1⟩; have X1 := Later.trans (w := wb) inferInstance L1; have Y1 := Later.trans (w := wp) inferInstance L1; have Z1 := Later.trans (w := wx) inferInstance L1; have hB0 := HR0.later Z1; have hB1 := HR1.later Z1; have hc0 := fun i => hB0.cell i; have hf0 := fun i => hB0.frozen i; have hc1 := fun i => hB1.cell i; have hf1 := fun i => hB1.frozen i)
      | (go_at_call 79; refine (impl_isStop (r := t.Network) ⟨H.out.l_Network_Stops, H.out.l_Network_Lines⟩ (hwb0.trans inferInstance) _).mono ?_; rintro e w2 ⟨rfl, L2⟩; have X2 := Later.trans (w := wb) inferInstance L2; have Y2 := Later.trans (w := wp) inferInstance L2; have Z2 := Later.trans (w := wx) inferInstance L2; have hB0 := HR0.later Z2; have hB1 := HR1.later Z2; have hc0 := fun i => hB0.cell i; have hf0 := fun i => hB0.frozen i; have hc1 := fun i => hB1.cell i; have hf1 := fun i => hB1.frozen i)
    have HF0 := (hB0.set_ 0 (.int .i64 0)).far (p := ⟨w.heap.size + 6, 0, none⟩) (by simp) (.bool false)
    have HF1 := (hB1.far (p := ⟨w.heap.size + 5, 0, none⟩) (by simp) (.int .i64 0)).set_ 0 (.bool false)
    have hr0 := (HF0.cell 0).trans (show _ = some (.int .i64 0 : Value) from rfl)
    have hr1 := (HF1.cell 0).trans (show _ = some (.bool false : Value) from rfl)
    refine bodyPost_ret (v := .tuple #[.int .i64 0, .bool false]) (by simp [results, Try.results58, go_sem, hr0, hr1]) rfl ?_
    exact ⟨rfl, Later.trans (w := w) hlp inferInstance⟩
  by_cases b5 : from_ = to
  · have e1 := (beqi_t b5).1
    have e2 := (beqi_t b5).2
    have HR := Lib.hid (lat_no (t := t) (change := change) (from_ := from_) (to := to) (by_ := by_) (by unfold okPairAt; rw [decide_eq_false (by simpa using b5)]; simp))
    rw [HR.out]
    clear b5
    obtain ⟨wp, hwp⟩ : ∃ wp : World, wp = (((((w.alloc (.cells #[.slice sA0 sn0 sc0, .slice sA1 sn1 sc1, .slice sA2 sn2 sc2] 39)).alloc (.cells #[.int .i64 change] 3)).alloc (.cells #[.int .i64 from_] 3)).alloc (.cells #[.int .i64 to] 3)).alloc (.cells #[.int .i64 by_] 3)) := ⟨_, rfl⟩
    obtain ⟨wx, hwx⟩ : ∃ wx : World, wx = ((((((w.alloc (.cells #[.slice sA0 sn0 sc0, .slice sA1 sn1 sc1, .slice sA2 sn2 sc2] 39)).alloc (.cells #[.int .i64 change] 3)).alloc (.cells #[.int .i64 from_] 3)).alloc (.cells #[.int .i64 to] 3)).alloc (.cells #[.int .i64 by_] 3)).alloc (.cells #[.int .i64 0] 3)).alloc (.cells #[.bool false] 4) := ⟨_, rfl⟩
    have HP1 : Blk wp (w.heap.size + 1) 3 #[.int .i64 change] := by rw [hwp]; exact (heap_old (by simp)).trans ((heap_old (by simp)).trans ((heap_old (by simp)).trans (heap_new (by simp))))
    have HP2 : Blk wp (w.heap.size + 2) 3 #[.int .i64 from_] := by rw [hwp]; exact (heap_old (by simp)).trans ((heap_old (by simp)).trans (heap_new (by simp)))
    have HP3 : Blk wp (w.heap.size + 3) 3 #[.int .i64 to] := by rw [hwp]; exact (heap_old (by simp)).trans (heap_new (by simp))
    have HP4 : Blk wp (w.heap.size + 4) 3 #[.int .i64 by_] := by rw [hwp]; exact heap_new (by simp)
    have HR0 : Blk wx (w.heap.size + 5) 3 #[.int .i64 0] := by rw [hwx]; exact (heap_old (by simp)).trans (heap_new (by simp))
    have HR1 : Blk wx (w.heap.size + 6) 4 #[.bool false] := by rw [hwx]; exact heap_new (by simp)
    haveI hpb : Later wb wp := by rw [hwp]; infer_instance
    haveI hpx : Later wp wx := by rw [hwp, hwx]; infer_instance
    haveI hxb : Later wb wx := Later.trans hpb hpx
    haveI hpW : Later wp (((((w.alloc (.cells #[.slice sA0 sn0 sc0, .slice sA1 sn1 sc1, .slice sA2 sn2 sc2] 39)).alloc (.cells #[.int .i64 change] 3)).alloc (.cells #[.int .i64 from_] 3)).alloc (.cells #[.int .i64 to] 3)).alloc (.cells #[.int .i64 by_] 3)) := by rw [hwp]; exact Later.rfl_
    haveI hxW : Later wx (((((((w.alloc (.cells #[.slice sA0 sn0 sc0, .slice sA1 sn1 sc1, .slice sA2 sn2 sc2] 39)).alloc (.cells #[.int .i64 change] 3)).alloc (.cells #[.int .i64 from_] 3)).alloc (.cells #[.int .i64 to] 3)).alloc (.cells #[.int .i64 by_] 3)).alloc (.cells #[.int .i64 0] 3)).alloc (.cells #[.bool false] 4)) := by rw [hwx]; exact Later.rfl_
    have hpz : wp.heap.size = w.heap.size + 5 := by rw [hwp]; simp
    have hxz : wx.heap.size = w.heap.size + 7 := by rw [hwx]; simp
    have hp1 : ∀ W [Later wp W], W.cell? ⟨w.heap.size + 1, 0, none⟩ = some (.int .i64 change) := fun W hW => (HP1.later hW).cell 0
    have hp2 : ∀ W [Later wp W], W.cell? ⟨w.heap.size + 2, 0, none⟩ = some (.int .i64 from_) := fun W hW => (HP2.later hW).cell 0
    have hp3 : ∀ W [Later wp W], W.cell? ⟨w.heap.size + 3, 0, none⟩ = some (.int .i64 to) := fun W hW => (HP3.later hW).cell 0
    have hp4 : ∀ W [Later wp W], W.cell? ⟨w.heap.size + 4, 0, none⟩ = some (.int .i64 by_) := fun W hW => (HP4.later hW).cell 0
    have hlp : Later w wp := Later.trans hww hpb
    haveI hn5 : New wp (w.heap.size + 1 + 1 + 1 + 1 + 1) := ⟨by omega⟩
    haveI hn6 : New wp (w.heap.size + 1 + 1 + 1 + 1 + 1 + 1) := ⟨by omega⟩
    haveI hn5' : New wp (w.heap.size + 5) := ⟨by omega⟩
    haveI hn6' : New wp (w.heap.size + 6) := ⟨by omega⟩
    clear hwp hwx HP1 HP2 HP3 HP4
    go_enter Try.func58, Try.ntmps58
    go_wp2_with first
      | (go_at_call 78; refine (impl_isFrom H.out (hwb0.trans inferInstance) _ _ _).mono ?_; rintro e w1 ⟨rfl, L1⟩; have X1 := Later.trans (w := wb) inferInstance L1; have Y1 := Later.trans (w := wp) inferInstance L1; have Z1 := Later.trans (w := wx) inferInstance L1; have hB0 := HR0.later Z1; have hB1 := HR1.later Z1; have hc0 := fun i => hB0.cell i; have hf0 := fun i => hB0.frozen i; have hc1 := fun i => hB1.cell i; have hf1 := fun i => hB1.frozen i)
      | (go_at_call 79; refine (impl_isStop (r := t.Network) ⟨H.out.l_Network_Stops, H.out.l_Network_Lines⟩ (hwb0.trans inferInstance) _).mono ?_; rintro e w2 ⟨rfl, L2⟩; have X2 := Later.trans (w := wb) inferInstance L2; have Y2 := Later.trans (w := wp) inferInstance L2; have Z2 := Later.trans (w := wx) inferInstance L2; have hB0 := HR0.later Z2; have hB1 := HR1.later Z2; have hc0 := fun i => hB0.cell i; have hf0 := fun i => hB0.frozen i; have hc1 := fun i => hB1.cell i; have hf1 := fun i => hB1.frozen i)
    have HF0 := (hB0.set_ 0 (.int .i64 0)).far (p := ⟨w.heap.size + 6, 0, none⟩) (by simp) (.bool false)
    have HF1 := (hB1.far (p := ⟨w.heap.size + 5, 0, none⟩) (by simp) (.int .i64 0)).set_ 0 (.bool false)
    have hr0 := (HF0.cell 0).trans (show _ = some (.int .i64 0 : Value) from rfl)
    have hr1 := (HF1.cell 0).trans (show _ = some (.bool false : Value) from rfl)
    refine bodyPost_ret (v := .tuple #[.int .i64 0, .bool false]) (by simp [results, Try.results58, go_sem, hr0, hr1]) rfl ?_
    exact ⟨rfl, Later.trans (w := w) hlp inferInstance⟩
  have e1 := (beqi_f b5).1
  have e2 := (beqi_f b5).2
  obtain ⟨pf, hy0, hy1, hr⟩ := lat_yes (t := t) (change := change) (from_ := from_) (to := to) (by_ := by_) (by unfold okPairAt; rw [b1, b3, decide_eq_true b5]; rfl)
  have PF := Lib.hid pf
  have HR := Lib.hid hr
  have hn8 : sn0 ≤ 8 := by have := pf.time.net.stops; rw [Hl.out]; omega
  have ch0 := pf.ch.1
  have ch1 := pf.ch.2
  obtain ⟨q, rfl⟩ := Int.eq_ofNat_of_zero_le pf.to_.1
  have hq : q < sn0 := by have := pf.to_.2; rw [Hl.out]; omega
  have hqi : (q : Int) < sn0 := by omega
  obtain ⟨zs, hzs⟩ : ∃ zs, depsI t from_ = zs := ⟨_, rfl⟩
  have HZ := Lib.hid hzs
  have HD12 : Hid (zs.length ≤ 12) := by show _ ≤ _; rw [← hzs]; have := depsI_len t from_; have := pf.time.len; omega
  have HDB : Hid (∀ v, v ∈ zs → 0 ≤ v ∧ v ≤ 2099) := fun v hv => deps_bd pf.time (deps_sub (by rw [hzs]; exact hv))
  have HLI : Hid (latI t change from_ q by_ = zs.reverse.find? fun d => decide (arrV t change from_ d 4 q ≤ by_)) := by show _ = _; unfold latI; rw [hzs]
  rw [HR.out, HLI.out]
  clear pf hr hzs b5
  obtain ⟨wp, hwp⟩ : ∃ wp : World, wp = (((((w.alloc (.cells #[.slice sA0 sn0 sc0, .slice sA1 sn1 sc1, .slice sA2 sn2 sc2] 39)).alloc (.cells #[.int .i64 change] 3)).alloc (.cells #[.int .i64 from_] 3)).alloc (.cells #[.int .i64 q] 3)).alloc (.cells #[.int .i64 by_] 3)) := ⟨_, rfl⟩
  obtain ⟨wx, hwx⟩ : ∃ wx : World, wx = ((((((w.alloc (.cells #[.slice sA0 sn0 sc0, .slice sA1 sn1 sc1, .slice sA2 sn2 sc2] 39)).alloc (.cells #[.int .i64 change] 3)).alloc (.cells #[.int .i64 from_] 3)).alloc (.cells #[.int .i64 q] 3)).alloc (.cells #[.int .i64 by_] 3)).alloc (.cells #[.int .i64 0] 3)).alloc (.cells #[.bool false] 4) := ⟨_, rfl⟩
  have HP1 : Blk wp (w.heap.size + 1) 3 #[.int .i64 change] := by rw [hwp]; exact (heap_old (by simp)).trans ((heap_old (by simp)).trans ((heap_old (by simp)).trans (heap_new (by simp))))
  have HP2 : Blk wp (w.heap.size + 2) 3 #[.int .i64 from_] := by rw [hwp]; exact (heap_old (by simp)).trans ((heap_old (by simp)).trans (heap_new (by simp)))
  have HP3 : Blk wp (w.heap.size + 3) 3 #[.int .i64 q] := by rw [hwp]; exact (heap_old (by simp)).trans (heap_new (by simp))
  have HP4 : Blk wp (w.heap.size + 4) 3 #[.int .i64 by_] := by rw [hwp]; exact heap_new (by simp)
  have HR0 : Blk wx (w.heap.size + 5) 3 #[.int .i64 0] := by rw [hwx]; exact (heap_old (by simp)).trans (heap_new (by simp))
  have HR1 : Blk wx (w.heap.size + 6) 4 #[.bool false] := by rw [hwx]; exact heap_new (by simp)
  haveI hpb : Later wb wp := by rw [hwp]; infer_instance
  haveI hpx : Later wp wx := by rw [hwp, hwx]; infer_instance
  haveI hxb : Later wb wx := Later.trans hpb hpx
  haveI hpW : Later wp (((((w.alloc (.cells #[.slice sA0 sn0 sc0, .slice sA1 sn1 sc1, .slice sA2 sn2 sc2] 39)).alloc (.cells #[.int .i64 change] 3)).alloc (.cells #[.int .i64 from_] 3)).alloc (.cells #[.int .i64 q] 3)).alloc (.cells #[.int .i64 by_] 3)) := by rw [hwp]; exact Later.rfl_
  haveI hxW : Later wx (((((((w.alloc (.cells #[.slice sA0 sn0 sc0, .slice sA1 sn1 sc1, .slice sA2 sn2 sc2] 39)).alloc (.cells #[.int .i64 change] 3)).alloc (.cells #[.int .i64 from_] 3)).alloc (.cells #[.int .i64 q] 3)).alloc (.cells #[.int .i64 by_] 3)).alloc (.cells #[.int .i64 0] 3)).alloc (.cells #[.bool false] 4)) := by rw [hwx]; exact Later.rfl_
  have hpz : wp.heap.size = w.heap.size + 5 := by rw [hwp]; simp
  have hxz : wx.heap.size = w.heap.size + 7 := by rw [hwx]; simp
  have hp1 : ∀ W [Later wp W], W.cell? ⟨w.heap.size + 1, 0, none⟩ = some (.int .i64 change) := fun W hW => (HP1.later hW).cell 0
  have hp2 : ∀ W [Later wp W], W.cell? ⟨w.heap.size + 2, 0, none⟩ = some (.int .i64 from_) := fun W hW => (HP2.later hW).cell 0
  have hp3 : ∀ W [Later wp W], W.cell? ⟨w.heap.size + 3, 0, none⟩ = some (.int .i64 q) := fun W hW => (HP3.later hW).cell 0
  have hp4 : ∀ W [Later wp W], W.cell? ⟨w.heap.size + 4, 0, none⟩ = some (.int .i64 by_) := fun W hW => (HP4.later hW).cell 0
  have hlp : Later w wp := Later.trans hww hpb
  haveI hn5 : New wp (w.heap.size + 1 + 1 + 1 + 1 + 1) := ⟨by omega⟩
  haveI hn6 : New wp (w.heap.size + 1 + 1 + 1 + 1 + 1 + 1) := ⟨by omega⟩
  haveI hn5' : New wp (w.heap.size + 5) := ⟨by omega⟩
  haveI hn6' : New wp (w.heap.size + 6) := ⟨by omega⟩
  clear hwp hwx HP1 HP2 HP3 HP4
  refine (callsIn_wide (n := 3)).1 ?_
  refine callsIn_of_wp_marks Try.func58 rfl trivial ?_ rfl
  simp only [Try.ntmps58, List.size_toArray, List.length_cons, List.length_nil, Nat.reduceAdd, Nat.reduceSub, Array.replicate_succ, Array.replicate_zero, List.push_toArray, List.append_toArray, List.nil_append, List.cons_append]
  gi_wp2_with first
    | (refine ⟨trivial, ?_⟩; gi_at_call 78; refine (callsIn_wide.2 (impl_isFrom H.out (hwb0.trans inferInstance) _ _ _)).mono ?_; rintro e w1 ⟨rfl, L1⟩; have X1 := Later.trans (w := wb) inferInstance L1; have Y1 := Later.trans (w := wp) inferInstance L1; have Z1 := Later.trans (w := wx) inferInstance L1; have hB0 := HR0.later Z1; have hB1 := HR1.later Z1; have hc0 := fun i => hB0.cell i; have hf0 := fun i => hB0.frozen i; have hc1 := fun i => hB1.cell i; have hf1 := fun i => hB1.frozen i)
    | (refine ⟨trivial, ?_⟩; gi_at_call 79; refine (callsIn_wide.2 (impl_isStop (r := t.Network) ⟨H.out.l_Network_Stops, H.out.l_Network_Lines⟩ (hwb0.trans inferInstance) _)).mono ?_; rintro e w2 ⟨rfl, L2⟩; have X2 := Later.trans (w := wb) inferInstance L2; have Y2 := Later.trans (w := wp) inferInstance L2; have Z2 := Later.trans (w := wx) inferInstance L2; have hB0 := HR0.later Z2; have hB1 := HR1.later Z2; have hc0 := fun i => hB0.cell i; have hf0 := fun i => hB0.frozen i; have hc1 := fun i => hB1.cell i; have hf1 := fun i => hB1.frozen i)
    | (refine ⟨trivial, ?_⟩; gi_at_call 122; refine (callsIn_wide.2 (impl_departuresFrom H.out (hwb0.trans inferInstance) PF.out.time from_)).mono ?_; rw [HZ.out]; rintro e w3 ⟨A3, n3, c3, f3, rfl, ho3, hnd3, hlo3, L3⟩; have X3 := Later.trans (w := wb) inferInstance L3; have Y3 := Later.trans (w := wp) inferInstance L3; have Z3 := Later.trans (w := wx) inferInstance L3; have hB0 := HR0.later Z3; have hB1 := HR1.later Z3; have hc0 := fun i => hB0.cell i; have hf0 := fun i => hB0.frozen i; have hc1 := fun i => hB1.cell i; have hf1 := fun i => hB1.frozen i; have h3 : Ints w3 A3 n3 c3 zs := ho3.reads; have H3 := Lib.hid h3; have HO3 := Lib.hid ho3; have hn3 : n3 ≤ 12 := (by rw [h3.len]; exact HD12.out); clear h3 ho3 hnd3 hlo3)
    | (refine ⟨trivial, ?_⟩; gi_at_call 121; refine (callsIn_wide.2 (backward_in _ _ _ _)).mono ?_; rintro e w4 ⟨rfl, rfl⟩)
  have hb4 := (hB0.alloc (.cells #[.slice A3 n3 c3] 80))
  have hb5 := (hB1.alloc (.cells #[.slice A3 n3 c3] 80))
  have hbw : Blk (w3.alloc (.cells #[.slice A3 n3 c3] 80)) w3.heap.size 80 #[.slice A3 n3 c3] := Blk.new _ _ _
  haveI hpl : Later wp (w3.alloc (.cells #[.slice A3 n3 c3] 80)) := inferInstance
  haveI h3l : Later w3 (w3.alloc (.cells #[.slice A3 n3 c3] 80)) := inferInstance
  have hls : (w3.alloc (.cells #[.slice A3 n3 c3] 80)).heap.size = w3.heap.size + 1 := by simp
  have hHIl := H3.out.later h3l
  have hOl := HO3.out
  have hp3z : wx.heap.size ≤ w3.heap.size := Later.size (w := wx) inferInstance
  generalize w3.alloc (.cells #[.slice A3 n3 c3] 80) = wl at hb4 hb5 hbw hpl h3l hls hHIl ⊢
  have hnl : n3 = zs.length := H3.out.len
  have HW7 : Hid (w.heap.size + 7 ≤ wl.heap.size) := by show _ ≤ _; omega
  have hwpl : wp.heap.size ≤ wl.heap.size := by omega
  have hA3 : ∀ ad, A3 = some ad → 0 < n3 → ad.block < wl.heap.size := fun ad e hpos => by
    subst e
    rcases hOl.own with ⟨ez, _⟩ | ⟨g, o, t', cs, fps, ha, hg, _⟩
    · rw [ez] at hnl; simp at hnl; omega
    · cases ha
      have := Blk.lt hg
      show g < _; omega
  refine wpIn_rangeFunc_ownG rfl (by omega) (gf := 167) (lb := #[.pointer (some ⟨w3.heap.size, 0, none⟩)]) rfl trivial (enters_of Try.func167 (by kernel_rfl) rfl)
    (back_stops encD (itD n3 zs) _ (by omega) w3.heap.size wl.heap.size A3 n3 c3 zs (itD_enc hnl HDB.out) (by omega) wl (by omega) (Nat.le_refl _) ((hbw.cell 0).trans rfl) hHIl hA3) belowK_t (belowK_b (Nat.le_refl _)) (Below.refl _ _) (fun _ => rfl)
    (fun pre W => ((∀ p, p ∈ pre → decide (arrV t change from_ p.2.1 4 q ≤ by_) = false) ∧ Blk W (w.heap.size + 1 + 1 + 1 + 1 + 1) 3 #[.int .i64 0] ∧ Blk W (w.heap.size + 1 + 1 + 1 + 1 + 1 + 1) 4 #[.bool false]) ∧ Below wp.heap.size wl W)
    (fun c pre W => (c = .ret ∧ ∃ ini last, pre = ini ++ [last] ∧ (∀ p, p ∈ ini → decide (arrV t change from_ p.2.1 4 q ≤ by_) = false) ∧ decide (arrV t change from_ last.2.1 4 q ≤ by_) = true ∧ Blk W (w.heap.size + 1 + 1 + 1 + 1 + 1) 3 #[.int .i64 last.2.1] ∧ Blk W (w.heap.size + 1 + 1 + 1 + 1 + 1 + 1) 4 #[.bool true]) ∧ Below wp.heap.size wl W)
    (OwnFrom.and (Own.from (fun s A B row hs hg hr => ⟨hs.1, (grownBy_keeps_cells hg hr hs.2.1 rfl).trans hs.2.1, (grownBy_keeps_cells hg hr hs.2.2 rfl).trans hs.2.2⟩) _) (ownFrom_below hwpl hwpl))
    (fun c => OwnFrom.and (Own.from (fun s A B row hs hg hr => by obtain ⟨hc, ini, last, e1, e2, e3, e4, e5⟩ := hs; exact ⟨hc, ini, last, e1, e2, e3, (grownBy_keeps_cells hg hr e4 rfl).trans e4, (grownBy_keeps_cells hg hr e5 rfl).trans e5⟩) _) (ownFrom_below hwpl hwpl))
    ⟨⟨by simp, hb4, hb5⟩, Below.refl _ _⟩
    ?a1 ?assign ?body ?done ?stop
  case assign =>
    intro l x W K hK
    simp only [encD]
    gi_wp2
    exact hK
  case body =>
    rintro l pre ⟨i, d, hd0, hd1⟩ W ⟨⟨hp, hk0, hk1⟩, hB⟩ hlt
    have hx0 : ∀ W' [Later W W'] (i : Nat), W'.cell? ⟨w.heap.size + 1 + 1 + 1 + 1 + 1, i, none⟩ = #[.int .i64 0][i]? := fun W' hW' i => (hk0.later hW').cell i
    have hx1 : ∀ W' [Later W W'] (i : Nat), W'.cell? ⟨w.heap.size + 1 + 1 + 1 + 1 + 1 + 1, i, none⟩ = #[.bool false][i]? := fun W' hW' i => (hk1.later hW').cell i
    have hy0' : ∀ W' [Later W W'] (i : Nat), W'.frozen? ⟨w.heap.size + 1 + 1 + 1 + 1 + 1, i, none⟩ = false := fun W' hW' i => (hk0.later hW').frozen i
    have hy1' : ∀ W' [Later W W'] (i : Nat), W'.frozen? ⟨w.heap.size + 1 + 1 + 1 + 1 + 1 + 1, i, none⟩ = false := fun W' hW' i => (hk1.later hW').frozen i
    haveI hpW' : Later wp W := ⟨hpl.below.trans hB⟩
    haveI hbW' : Later wb W := Later.trans hpb hpW'
    have hwlW : wl.heap.size ≤ W.heap.size := hB.size
    have HSM := Lib.hid (small_atL (n := t.Network.Stops.length) (from_ := from_) hd0 hd1)
    have HRL : Hid ((readyL t.Network.Stops.length from_ d).length = t.Network.Stops.length) := by show _ = _; simp [readyL]
    obtain ⟨u, hu⟩ : ∃ u, arrV t change from_ d 4 q = u := ⟨_, rfl⟩
    have HAT : Hid ((arrL t change (readyL t.Network.Stops.length from_ d) 4)[q]? = some u) := by
      have hlen := (arrL_min (stopsIn PF.out.time) ch0 (at_ := d) PF.out.fr.1 PF.out.fr.2 4).1
      have hq2 : q < (arrL t change (readyL t.Network.Stops.length from_ d) 4).length := by rw [hlen, ← Hl.out]; exact hq
      show _ = _
      rw [← hu]
      unfold arrV gi
      rw [List.getD_eq_getElem?_getD, Int.toNat_natCast, List.getElem?_eq_getElem hq2]; rfl
    have HU := Lib.hid hu
    have HPP : Hid (∀ p, p ∈ pre → decide (arrV t change from_ p.2.1 4 q ≤ by_) = false) := hp
    clear hu hp
    by_cases huy : u ≤ by_
    · clear X2 Y2 Z2 L2
      gi_wp2
      refine wpIn_region_held_drew (S := (fun w' => Later wb w' ∧ Later wp w' ∧ Later W w')) (by kernel_rfl) (by rintro ⟨_, _, hlo⟩; exact hlo) (by kernel_rfl) (by exact ⟨inferInstance, inferInstance, inferInstance⟩) (fun hHeld => ?_)
      refine wpAnyH_take (i := 0) (v := ?_) (by simp only [List.getElem?_toArray, List.getElem?_cons_zero] <;> rfl) (by kernel_rfl) (by kernel_rfl) (by kernel_rfl) (by exact fun _ _ _ h => h) (Or.inl ⟨by kernel_rfl, ?_⟩) (by assumption) ?_
      rotate_left
      · intro w' hSw; (try dsimp only at hSw); go_simp; try with_reducible rfl
      try simp only [Act.put, List.setIfInBounds_toArray, List.set_cons_zero, List.set_cons_succ]
      refine wpAnyH_take (i := 1) (v := ?_) (by simp only [List.getElem?_toArray, List.getElem?_cons_succ, List.getElem?_cons_zero] <;> rfl) (by kernel_rfl) (by kernel_rfl) (by kernel_rfl) (by exact fun _ _ _ h => h) (Or.inl ⟨by kernel_rfl, ?_⟩) (by assumption) ?_
      rotate_left
      · intro w' hSw; (try dsimp only at hSw); go_simp; try with_reducible rfl
      try simp only [Act.put, List.setIfInBounds_toArray, List.set_cons_zero, List.set_cons_succ]
      refine wpAnyH_take (i := 2) (v := ?_) (by simp only [List.getElem?_toArray, List.getElem?_cons_succ, List.getElem?_cons_zero] <;> rfl) (by kernel_rfl) (by kernel_rfl) (by kernel_rfl) (by exact fun _ _ _ h => h) (Or.inl ⟨by kernel_rfl, ?_⟩) (by assumption) ?_
      rotate_left
      · intro w' hSw; (try dsimp only at hSw); go_simp; try with_reducible rfl
      try simp only [Act.put, List.setIfInBounds_toArray, List.set_cons_zero, List.set_cons_succ]
      refine wpAnyH_take (i := 3) (v := ?_) (by simp only [List.getElem?_toArray, List.getElem?_cons_succ, List.getElem?_cons_zero] <;> rfl) (by kernel_rfl) (by kernel_rfl) (by kernel_rfl) (by exact fun _ _ _ h => h) (Or.inl ⟨by kernel_rfl, ?_⟩) (by assumption) ?_
      rotate_left
      · intro w' hSw; (try dsimp only at hSw); go_simp; try with_reducible rfl
      try simp only [Act.put, List.setIfInBounds_toArray, List.set_cons_zero, List.set_cons_succ]
      refine wpAnyH_take (i := 4) (v := ?_) (by simp only [List.getElem?_toArray, List.getElem?_cons_succ, List.getElem?_cons_zero] <;> rfl) (by kernel_rfl) (by kernel_rfl) (by kernel_rfl) (by exact fun _ _ _ h => h) (Or.inl ⟨by kernel_rfl, ?_⟩) (by assumption) ?_
      rotate_left
      · intro w' hSw; (try dsimp only at hSw); go_simp; try with_reducible rfl
      try simp only [Act.put, List.setIfInBounds_toArray, List.set_cons_zero, List.set_cons_succ]
      refine wpAnyH_take (i := 7) (v := ?_) (by simp only [List.getElem?_toArray, List.getElem?_cons_succ, List.getElem?_cons_zero] <;> rfl) (by kernel_rfl) (by kernel_rfl) (by kernel_rfl) (by exact fun _ _ _ h => h) (Or.inl ⟨by kernel_rfl, ?_⟩) (by assumption) ?_
      rotate_left
      · intro w' hSw; (try dsimp only at hSw); go_simp; try with_reducible rfl
      try simp only [Act.put, List.setIfInBounds_toArray, List.set_cons_zero, List.set_cons_succ]
      refine wpAnyH_take (i := 10) (v := ?_) (by simp only [List.getElem?_toArray, List.getElem?_cons_succ, List.getElem?_cons_zero] <;> rfl) (by kernel_rfl) (by kernel_rfl) (by kernel_rfl) (by exact fun _ _ _ h => h) (Or.inl ⟨by kernel_rfl, ?_⟩) (by assumption) ?_
      rotate_left
      · intro w' hSw; (try dsimp only at hSw); go_simp; try with_reducible rfl
      try simp only [Act.put, List.setIfInBounds_toArray, List.set_cons_zero, List.set_cons_succ]
      refine wpAnyH_ready (rs := [5]) (by kernel_rfl) (by simp) (AllReadyH.cons rfl (fun K hK => ?_) AllReadyH.nil)
      go_simp
      (go_at_call 124; refine (impl_readyAt H.out (hwb0.trans inferInstance) PF.out.time.net _ _ PF.out.fr.1 PF.out.fr.2).mono ?_; rintro e w1 ⟨g1, rfl, hl1, hB1', hg1, L1⟩; have X1 := Later.trans (w := wb) inferInstance L1; have Y1 := Later.trans (w := wp) inferInstance L1; have Z1 := Later.trans (w := W) inferInstance L1; have HL1 := Lib.hid hl1; clear hl1)
      refine hK.out _ _ (by exact ⟨inferInstance, inferInstance, inferInstance⟩) (fun hHeld => ?_)
      try simp only [Act.put, List.setIfInBounds_toArray, List.set_cons_zero, List.set_cons_succ]
      refine wpAnyH_ready (rs := [6]) (by kernel_rfl) (by simp) (AllReadyH.cons rfl (fun K hK => ?_) AllReadyH.nil)
      go_simp
      (go_at_call 123; refine (impl_arrivalsI H.out (hwb0.trans inferInstance) PF.out.time _ ch0 ch1 (hB1'.ints HL1.out (by omega) HSM.out.i64) inferInstance HRL.out HSM.out 4 (by omega) _ rfl).mono ?_; rintro e w2 ⟨g2, rfl, hl2, hB2', hg2, L2⟩; have X2 := Later.trans (w := wb) inferInstance L2; have Y2 := Later.trans (w := wp) inferInstance L2; have Z2 := Later.trans (w := W) inferInstance L2; have hcc := hB2'.rowAts HAT.out; clear hl2)
      refine hK.out _ _ (by exact ⟨inferInstance, inferInstance, inferInstance⟩) (fun hHeld => ?_)
      try simp only [Act.put, List.setIfInBounds_toArray, List.set_cons_zero, List.set_cons_succ]
      refine wpAnyH_take (i := 8) (v := ?_) (by simp only [List.getElem?_toArray, List.getElem?_cons_succ, List.getElem?_cons_zero] <;> rfl) (by kernel_rfl) (by kernel_rfl) (by kernel_rfl) (by exact fun _ _ _ h => h) (Or.inl ⟨by kernel_rfl, ?_⟩) (by assumption) ?_
      rotate_left
      · intro w' hSw; (try dsimp only at hSw); go_simp; try with_reducible rfl
      try simp only [Act.put, List.setIfInBounds_toArray, List.set_cons_zero, List.set_cons_succ]
      refine wpAnyH_ready (rs := [9]) (by kernel_rfl) (by simp) (AllReadyH.cons rfl (fun K hK => ?_) AllReadyH.nil)
      go_simp
      skip
      refine hK.out _ _ (by exact ⟨inferInstance, inferInstance, inferInstance⟩) (fun hHeld => ?_)
      try simp only [Act.put, List.setIfInBounds_toArray, List.set_cons_zero, List.set_cons_succ]
      refine wpAnyH_take (i := 11) (v := ?_) (by simp only [List.getElem?_toArray, List.getElem?_cons_succ, List.getElem?_cons_zero] <;> rfl) (by kernel_rfl) (by kernel_rfl) (by kernel_rfl) (by exact fun _ _ _ h => h) (Or.inl ⟨by kernel_rfl, ?_⟩) (by assumption) ?_
      rotate_left
      · intro w' hSw; (try dsimp only at hSw); go_simp; try with_reducible rfl
      try simp only [Act.put, List.setIfInBounds_toArray, List.set_cons_zero, List.set_cons_succ]
      refine wpAnyH_done (by kernel_rfl) ?_ _
      gi_wp2
      have hq0 := (hk0.later Z2).set_ 0 (.int .i64 d)
      have hq1 := ((hk1.later Z2).far (p := ⟨w.heap.size + 1 + 1 + 1 + 1 + 1, 0, none⟩) (by show ¬ _ = w.heap.size + 1 + 1 + 1 + 1 + 1; omega) (.int .i64 d)).set_ 0 (.bool true)
      exact ⟨((keeps_later (inferInstance : Later W w2) _).trans ((KeepsOthers.setCell _ _ _).from _)).trans ((KeepsOthers.setCell _ _ _).from _), ⟨rfl, pre, (i, ⟨d, hd0, hd1⟩), rfl, HPP.out, by show decide (arrV t change from_ d 4 q ≤ by_) = true; rw [HU.out]; exact decide_eq_true huy, hq0.far (p := ⟨w.heap.size + 1 + 1 + 1 + 1 + 1 + 1, 0, none⟩) (by show ¬ _ = w.heap.size + 1 + 1 + 1 + 1 + 1 + 1; omega) _, hq1⟩, ((hB.trans ((inferInstance : Later W w2).below.mono (Later.size hpW'))).setCell (p := ⟨w.heap.size + 1 + 1 + 1 + 1 + 1, 0, none⟩) (by show wp.heap.size ≤ w.heap.size + 1 + 1 + 1 + 1 + 1; omega) _).setCell (p := ⟨w.heap.size + 1 + 1 + 1 + 1 + 1 + 1, 0, none⟩) (by show wp.heap.size ≤ w.heap.size + 1 + 1 + 1 + 1 + 1 + 1; omega) _⟩
    · clear X2 Y2 Z2 L2
      gi_wp2
      refine wpIn_region_held_drew (S := (fun w' => Later wb w' ∧ Later wp w' ∧ Later W w')) (by kernel_rfl) (by rintro ⟨_, _, hlo⟩; exact hlo) (by kernel_rfl) (by exact ⟨inferInstance, inferInstance, inferInstance⟩) (fun hHeld => ?_)
      refine wpAnyH_take (i := 0) (v := ?_) (by simp only [List.getElem?_toArray, List.getElem?_cons_zero] <;> rfl) (by kernel_rfl) (by kernel_rfl) (by kernel_rfl) (by exact fun _ _ _ h => h) (Or.inl ⟨by kernel_rfl, ?_⟩) (by assumption) ?_
      rotate_left
      · intro w' hSw; (try dsimp only at hSw); go_simp; try with_reducible rfl
      try simp only [Act.put, List.setIfInBounds_toArray, List.set_cons_zero, List.set_cons_succ]
      refine wpAnyH_take (i := 1) (v := ?_) (by simp only [List.getElem?_toArray, List.getElem?_cons_succ, List.getElem?_cons_zero] <;> rfl) (by kernel_rfl) (by kernel_rfl) (by kernel_rfl) (by exact fun _ _ _ h => h) (Or.inl ⟨by kernel_rfl, ?_⟩) (by assumption) ?_
      rotate_left
      · intro w' hSw; (try dsimp only at hSw); go_simp; try with_reducible rfl
      try simp only [Act.put, List.setIfInBounds_toArray, List.set_cons_zero, List.set_cons_succ]
      refine wpAnyH_take (i := 2) (v := ?_) (by simp only [List.getElem?_toArray, List.getElem?_cons_succ, List.getElem?_cons_zero] <;> rfl) (by kernel_rfl) (by kernel_rfl) (by kernel_rfl) (by exact fun _ _ _ h => h) (Or.inl ⟨by kernel_rfl, ?_⟩) (by assumption) ?_
      rotate_left
      · intro w' hSw; (try dsimp only at hSw); go_simp; try with_reducible rfl
      try simp only [Act.put, List.setIfInBounds_toArray, List.set_cons_zero, List.set_cons_succ]
      refine wpAnyH_take (i := 3) (v := ?_) (by simp only [List.getElem?_toArray, List.getElem?_cons_succ, List.getElem?_cons_zero] <;> rfl) (by kernel_rfl) (by kernel_rfl) (by kernel_rfl) (by exact fun _ _ _ h => h) (Or.inl ⟨by kernel_rfl, ?_⟩) (by assumption) ?_
      rotate_left
      · intro w' hSw; (try dsimp only at hSw); go_simp; try with_reducible rfl
      try simp only [Act.put, List.setIfInBounds_toArray, List.set_cons_zero, List.set_cons_succ]
      refine wpAnyH_take (i := 4) (v := ?_) (by simp only [List.getElem?_toArray, List.getElem?_cons_succ, List.getElem?_cons_zero] <;> rfl) (by kernel_rfl) (by kernel_rfl) (by kernel_rfl) (by exact fun _ _ _ h => h) (Or.inl ⟨by kernel_rfl, ?_⟩) (by assumption) ?_
      rotate_left
      · intro w' hSw; (try dsimp only at hSw); go_simp; try with_reducible rfl
      try simp only [Act.put, List.setIfInBounds_toArray, List.set_cons_zero, List.set_cons_succ]
      refine wpAnyH_take (i := 7) (v := ?_) (by simp only [List.getElem?_toArray, List.getElem?_cons_succ, List.getElem?_cons_zero] <;> rfl) (by kernel_rfl) (by kernel_rfl) (by kernel_rfl) (by exact fun _ _ _ h => h) (Or.inl ⟨by kernel_rfl, ?_⟩) (by assumption) ?_
      rotate_left
      · intro w' hSw; (try dsimp only at hSw); go_simp; try with_reducible rfl
      try simp only [Act.put, List.setIfInBounds_toArray, List.set_cons_zero, List.set_cons_succ]
      refine wpAnyH_take (i := 10) (v := ?_) (by simp only [List.getElem?_toArray, List.getElem?_cons_succ, List.getElem?_cons_zero] <;> rfl) (by kernel_rfl) (by kernel_rfl) (by kernel_rfl) (by exact fun _ _ _ h => h) (Or.inl ⟨by kernel_rfl, ?_⟩) (by assumption) ?_
      rotate_left
      · intro w' hSw; (try dsimp only at hSw); go_simp; try with_reducible rfl
      try simp only [Act.put, List.setIfInBounds_toArray, List.set_cons_zero, List.set_cons_succ]
      refine wpAnyH_ready (rs := [5]) (by kernel_rfl) (by simp) (AllReadyH.cons rfl (fun K hK => ?_) AllReadyH.nil)
      go_simp
      (go_at_call 124; refine (impl_readyAt H.out (hwb0.trans inferInstance) PF.out.time.net _ _ PF.out.fr.1 PF.out.fr.2).mono ?_; rintro e w1 ⟨g1, rfl, hl1, hB1', hg1, L1⟩; have X1 := Later.trans (w := wb) inferInstance L1; have Y1 := Later.trans (w := wp) inferInstance L1; have Z1 := Later.trans (w := W) inferInstance L1; have HL1 := Lib.hid hl1; clear hl1)
      refine hK.out _ _ (by exact ⟨inferInstance, inferInstance, inferInstance⟩) (fun hHeld => ?_)
      try simp only [Act.put, List.setIfInBounds_toArray, List.set_cons_zero, List.set_cons_succ]
      refine wpAnyH_ready (rs := [6]) (by kernel_rfl) (by simp) (AllReadyH.cons rfl (fun K hK => ?_) AllReadyH.nil)
      go_simp
      (go_at_call 123; refine (impl_arrivalsI H.out (hwb0.trans inferInstance) PF.out.time _ ch0 ch1 (hB1'.ints HL1.out (by omega) HSM.out.i64) inferInstance HRL.out HSM.out 4 (by omega) _ rfl).mono ?_; rintro e w2 ⟨g2, rfl, hl2, hB2', hg2, L2⟩; have X2 := Later.trans (w := wb) inferInstance L2; have Y2 := Later.trans (w := wp) inferInstance L2; have Z2 := Later.trans (w := W) inferInstance L2; have hcc := hB2'.rowAts HAT.out; clear hl2)
      refine hK.out _ _ (by exact ⟨inferInstance, inferInstance, inferInstance⟩) (fun hHeld => ?_)
      try simp only [Act.put, List.setIfInBounds_toArray, List.set_cons_zero, List.set_cons_succ]
      refine wpAnyH_take (i := 8) (v := ?_) (by simp only [List.getElem?_toArray, List.getElem?_cons_succ, List.getElem?_cons_zero] <;> rfl) (by kernel_rfl) (by kernel_rfl) (by kernel_rfl) (by exact fun _ _ _ h => h) (Or.inl ⟨by kernel_rfl, ?_⟩) (by assumption) ?_
      rotate_left
      · intro w' hSw; (try dsimp only at hSw); go_simp; try with_reducible rfl
      try simp only [Act.put, List.setIfInBounds_toArray, List.set_cons_zero, List.set_cons_succ]
      refine wpAnyH_ready (rs := [9]) (by kernel_rfl) (by simp) (AllReadyH.cons rfl (fun K hK => ?_) AllReadyH.nil)
      go_simp
      skip
      refine hK.out _ _ (by exact ⟨inferInstance, inferInstance, inferInstance⟩) (fun hHeld => ?_)
      try simp only [Act.put, List.setIfInBounds_toArray, List.set_cons_zero, List.set_cons_succ]
      refine wpAnyH_take (i := 11) (v := ?_) (by simp only [List.getElem?_toArray, List.getElem?_cons_succ, List.getElem?_cons_zero] <;> rfl) (by kernel_rfl) (by kernel_rfl) (by kernel_rfl) (by exact fun _ _ _ h => h) (Or.inl ⟨by kernel_rfl, ?_⟩) (by assumption) ?_
      rotate_left
      · intro w' hSw; (try dsimp only at hSw); go_simp; try with_reducible rfl
      try simp only [Act.put, List.setIfInBounds_toArray, List.set_cons_zero, List.set_cons_succ]
      refine wpAnyH_done (by kernel_rfl) ?_ _
      gi_wp2
      exact ⟨keeps_later (inferInstance : Later W w2) _, (inferInstance : Later W w2).below.mono hwlW, ⟨fun p hp' => (List.mem_append.1 hp').elim (HPP.out p) (fun e => by simp at e; subst e; show decide (arrV t change from_ d 4 q ≤ by_) = false; rw [HU.out]; exact decide_eq_false (by omega)), hk0.later Z2, hk1.later Z2⟩, hB.trans ((inferInstance : Later W w2).below.mono (Later.size hpW'))⟩
  case done =>
    rintro D ys W hD rfl ⟨⟨hp, hk0, hk1⟩, hB⟩ hK
    have HD := Lib.hid hD
    haveI hpW' : Later wp W := ⟨hpl.below.trans hB⟩
    have HFN : Hid (zs.reverse.find? (fun d => decide (arrV t change from_ d 4 q ≤ by_)) = none) := find_none (l := upto (itD n3 zs) n3) (by rw [upto_vals hnl HDB.out (Nat.le_refl _), hnl]) hp
    have hx0 := fun i => hk0.cell i
    have hx1 := fun i => hk1.cell i
    have hy0' := fun i => hk0.frozen i
    have hy1' := fun i => hk1.frozen i
    clear hp
    gi_wp2
    have hq0 := (hk0.set_ 0 (.int .i64 0)).far (p := ⟨w.heap.size + 1 + 1 + 1 + 1 + 1 + 1, 0, none⟩) (by show ¬ _ = w.heap.size + 1 + 1 + 1 + 1 + 1 + 1; omega) (.bool false)
    have hq1 := (hk1.far (p := ⟨w.heap.size + 1 + 1 + 1 + 1 + 1, 0, none⟩) (by show ¬ _ = w.heap.size + 1 + 1 + 1 + 1 + 1; omega) (.int .i64 0)).set_ 0 (.bool false)
    have hK' := ((KeepsOthers.setCell W ⟨w.heap.size + 1 + 1 + 1 + 1 + 1, 0, none⟩ (.int .i64 0)).trans (KeepsOthers.setCell _ ⟨w.heap.size + 1 + 1 + 1 + 1 + 1 + 1, 0, none⟩ (.bool false))).same D _ hK rfl
    refine ⟨by simp, .inl ⟨_, _, rfl, run_takeDeferred hK', ?_⟩⟩
    have hz0 := ((World.putObj_heap_other (o := .deferred none) (show w.heap.size + 1 + 1 + 1 + 1 + 1 ≠ D by have := HD.out; have := HW7.out; omega)).trans hq0)
    have hz1 := ((World.putObj_heap_other (o := .deferred none) (show w.heap.size + 1 + 1 + 1 + 1 + 1 + 1 ≠ D by have := HD.out; have := HW7.out; omega)).trans hq1)
    have hr0 : (((W.setCell ⟨w.heap.size + 1 + 1 + 1 + 1 + 1, 0, none⟩ (.int .i64 0)).setCell ⟨w.heap.size + 1 + 1 + 1 + 1 + 1 + 1, 0, none⟩ (.bool false)).putObj D (.deferred none)).cell? ⟨w.heap.size + 1 + 1 + 1 + 1 + 1, 0, none⟩ = some (.int .i64 0) := (cell_of_row _ _ 0 _ _ _ hz0).trans rfl
    have hr1 : (((W.setCell ⟨w.heap.size + 1 + 1 + 1 + 1 + 1, 0, none⟩ (.int .i64 0)).setCell ⟨w.heap.size + 1 + 1 + 1 + 1 + 1 + 1, 0, none⟩ (.bool false)).putObj D (.deferred none)).cell? ⟨w.heap.size + 1 + 1 + 1 + 1 + 1 + 1, 0, none⟩ = some (.bool false) := (cell_of_row _ _ 0 _ _ _ hz1).trans rfl
    refine ⟨.tuple #[.int .i64 0, .bool false], by simp [results, Try.results58, go_sem, hr0, hr1], ?_⟩
    refine ⟨by rw [HFN.out]; rfl, ?_⟩
    have hb2 : Below wp.heap.size wl _ := ((hB.setCell (p := ⟨w.heap.size + 1 + 1 + 1 + 1 + 1, 0, none⟩) (by show wp.heap.size ≤ w.heap.size + 1 + 1 + 1 + 1 + 1; omega) (.int .i64 0)).setCell (p := ⟨w.heap.size + 1 + 1 + 1 + 1 + 1 + 1, 0, none⟩) (by show wp.heap.size ≤ w.heap.size + 1 + 1 + 1 + 1 + 1 + 1; omega) (.bool false)).trans (belowK_b (w := wl) hwpl _ D _ (.deferred none) HD.out hK' rfl rfl)
    exact Later.trans hlp ⟨hpl.below.trans hb2⟩
  case stop =>
    rintro D c pre W hD ⟨k, hk, hpre⟩ ⟨⟨rfl, ini, last, e1, e2, e3, hk0, hk1⟩, hB⟩ hK
    have HD := Lib.hid hD
    haveI hpW' : Later wp W := ⟨hpl.below.trans hB⟩
    have HFS : Hid (zs.reverse.find? (fun d => decide (arrV t change from_ d 4 q ≤ by_)) = some last.2.1) := find_some (l := ini) (x := last) (k := k) (by rw [← e1, hpre, upto_vals hnl HDB.out hk]) e2 e3
    clear e1 e2 e3 hpre
    gi_wp2
    refine ⟨by simp, .inl ⟨_, _, rfl, run_takeDeferred hK, ?_⟩⟩
    have hz0 := ((World.putObj_heap_other (o := .deferred none) (show w.heap.size + 1 + 1 + 1 + 1 + 1 ≠ D by have := HD.out; have := HW7.out; omega)).trans hk0)
    have hz1 := ((World.putObj_heap_other (o := .deferred none) (show w.heap.size + 1 + 1 + 1 + 1 + 1 + 1 ≠ D by have := HD.out; have := HW7.out; omega)).trans hk1)
    have hr0 : (W.putObj D (.deferred none)).cell? ⟨w.heap.size + 1 + 1 + 1 + 1 + 1, 0, none⟩ = some (.int .i64 last.2.1) := (cell_of_row _ _ 0 _ _ _ hz0).trans rfl
    have hr1 : (W.putObj D (.deferred none)).cell? ⟨w.heap.size + 1 + 1 + 1 + 1 + 1 + 1, 0, none⟩ = some (.bool true) := (cell_of_row _ _ 0 _ _ _ hz1).trans rfl
    refine ⟨.tuple #[.int .i64 last.2.1, .bool true], by simp [results, Try.results58, go_sem, hr0, hr1], ?_⟩
    refine ⟨by rw [HFS.out]; rfl, ?_⟩
    exact Later.trans hlp ⟨hpl.below.trans (hB.trans (belowK_b (w := wl) hwpl _ D _ (.deferred none) HD.out hK rfl rfl))⟩
end Go.Proofs.Yteijofkkggifhaa
