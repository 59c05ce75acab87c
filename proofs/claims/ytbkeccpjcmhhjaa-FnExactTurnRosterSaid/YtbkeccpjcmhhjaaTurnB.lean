/-
  Rosters: the turned roster.
-/
import Derived.Test.YtbkeccpjcmhhjaaTurn
import Derived.Test.YtbkeccpjcmhhjaaRepl
namespace Go.Proofs.Ytbkeccpjcmhhjaa
open Go Go.RowKit
set_option linter.unusedVariables false
set_option maxRecDepth 100000
def turned (r : Roster) (t : Nat) : List (List Int) := (List.range r.Plan.length).map fun i => rowOf r ((i + t) % r.Plan.length)
def turnRes (r : Roster) (t : Int) : Roster × Bool := if okRoster r && inB t 0 100 then ({ r with Plan := turned r t.toNat }, true) else (⟨[], ⟨0, 0, 0⟩, []⟩, false)
theorem turned_len (r : Roster) (t : Nat) : (turned r t).length = r.Plan.length := by simp [turned]
theorem turned_at {r : Roster} {t k : Nat} (hk : k < r.Plan.length) : (turned r t)[k]? = some (rowOf r ((k + t) % r.Plan.length)) := by simp [turned, hk]
set_option maxHeartbeats 400000 in
theorem impl_TurnRoster {w0 w : World} {sA0 : Option Addr} {sn0 sc0 : Nat} {sA1 : Option Addr} {sn1 sc1 : Nat} {r : Roster} (h : RosterAt w0 sA0 sn0 sc0 sA1 sn1 sc1 r) (hl : Later w0 w) (turns : Int) :
    Calls Try.prog 21 #[.agg #[.slice sA0 sn0 sc0, .int .i64 r.Rules.MinRest, .int .i64 r.Rules.MaxRow, .int .i64 r.Rules.MaxWeek, .slice sA1 sn1 sc1], .int .i64 turns] w (fun e w' => ∃ sA0 sn0 sc0 sA1 sn1 sc1 sf0 sf1, e = .returned (.tuple #[.agg #[.slice sA0 sn0 sc0, .int .i64 (turnRes r turns).1.Rules.MinRest, .int .i64 (turnRes r turns).1.Rules.MaxRow, .int .i64 (turnRes r turns).1.Rules.MaxWeek, .slice sA1 sn1 sc1], .bool (turnRes r turns).2]) ∧ RosterOw w' sA0 sn0 sc0 sA1 sn1 sc1 (turnRes r turns).1 sf0 sf1 ∧ (sf0 ++ sf1).Nodup ∧ (∀ g, g ∈ sf0 ++ sf1 → w.heap.size ≤ g) ∧ Later w w') := by
  replace h := h.later hl
  have hP := h.l_Plan
  have hn := hP.le
  have hlen := Lib.hid hP.len
  by_cases hv : okRoster r = true
  rotate_left
  · rw [show turnRes r turns = (⟨[], ⟨0, 0, 0⟩, []⟩, false) from by simp [turnRes, hv]]
    have hv0 : okRoster r = false := by simpa using hv
    clear hv
    have HB0 : ∀ W [Later (w.alloc (.cells #[.slice sA0 sn0 sc0, .int .i64 r.Rules.MinRest, .int .i64 r.Rules.MaxRow, .int .i64 r.Rules.MaxWeek, .slice sA1 sn1 sc1] 32)) W] (j : Nat), W.cell? ⟨w.heap.size, j, none⟩ = #[.slice sA0 sn0 sc0, .int .i64 r.Rules.MinRest, .int .i64 r.Rules.MaxRow, .int .i64 r.Rules.MaxWeek, .slice sA1 sn1 sc1][j]? := Later.boxes (t := 32) (fr := (0, 0)) (heap_new (by simp; try omega))
    have hB4 : Blk ((w.alloc (.cells #[.slice sA0 sn0 sc0, .int .i64 r.Rules.MinRest, .int .i64 r.Rules.MaxRow, .int .i64 r.Rules.MaxWeek, .slice sA1 sn1 sc1] 32)).alloc (.cells #[.slice none 0 0, .int .i64 0, .int .i64 0, .int .i64 0, .slice none 0 0] 32)) (w.heap.size + 1) 32 #[.slice none 0 0, .int .i64 0, .int .i64 0, .int .i64 0, .slice none 0 0] := heap_new (by simp)
    go_enter Try.func21, Try.ntmps21
    go_wp2_with first
      | (go_at_call 97; refine (impl_IsValidRoster h inferInstance).mono ?_; rintro e w1 ⟨rfl, hL⟩; have hX := Later.trans (w := (w.alloc (.cells #[.slice sA0 sn0 sc0, .int .i64 r.Rules.MinRest, .int .i64 r.Rules.MaxRow, .int .i64 r.Rules.MaxWeek, .slice sA1 sn1 sc1] 32))) inferInstance hL; have hU := Later.trans (w := w) inferInstance hL; have hBz := hB4.later hL; have hcrz := (fun j => hBz.cell j); have hfrz := (fun j => hBz.frozen j))
      | (go_at_call 98; refine (impl_within _ _ _ _).mono ?_; rintro e w' ⟨rfl, rfl⟩)
    have HF := ((((hBz.set_ 0 (.slice none 0 0)).set_ 1 (.int .i64 0)).set_ 2 (.int .i64 0)).set_ 3 (.int .i64 0)).set_ 4 (.slice none 0 0)
    have hr0 := (HF.cell 0).trans (show _ = some (.slice none 0 0 : Value) from rfl)
    have hr1 := (HF.cell 1).trans (show _ = some (.int .i64 0 : Value) from rfl)
    have hr2 := (HF.cell 2).trans (show _ = some (.int .i64 0 : Value) from rfl)
    have hr3 := (HF.cell 3).trans (show _ = some (.int .i64 0 : Value) from rfl)
    have hr4 := (HF.cell 4).trans (show _ = some (.slice none 0 0 : Value) from rfl)
    refine bodyPost_ret (v := .tuple #[.agg #[.slice none 0 0, .int .i64 0, .int .i64 0, .int .i64 0, .slice none 0 0], .bool false]) (by simp [results, Try.results21, go_sem, hr0, hr1, hr2, hr3, hr4]) rfl ?_
    exact ⟨none, 0, 0, none, 0, 0, [], [], rfl, ⟨OSl.nil_ _, by unfold I64; decide, by unfold I64; decide, by unfold I64; decide, OSl.nil_ _⟩, by simp, by simp, inferInstance⟩
  by_cases hi : inB turns 0 100 = true
  rotate_left
  · rw [show turnRes r turns = (⟨[], ⟨0, 0, 0⟩, []⟩, false) from by simp [turnRes, hi]]
    have hi0 : inB turns 0 100 = false := by simpa using hi
    clear hi
    have HB0 : ∀ W [Later (w.alloc (.cells #[.slice sA0 sn0 sc0, .int .i64 r.Rules.MinRest, .int .i64 r.Rules.MaxRow, .int .i64 r.Rules.MaxWeek, .slice sA1 sn1 sc1] 32)) W] (j : Nat), W.cell? ⟨w.heap.size, j, none⟩ = #[.slice sA0 sn0 sc0, .int .i64 r.Rules.MinRest, .int .i64 r.Rules.MaxRow, .int .i64 r.Rules.MaxWeek, .slice sA1 sn1 sc1][j]? := Later.boxes (t := 32) (fr := (0, 0)) (heap_new (by simp; try omega))
    have hB4 : Blk ((w.alloc (.cells #[.slice sA0 sn0 sc0, .int .i64 r.Rules.MinRest, .int .i64 r.Rules.MaxRow, .int .i64 r.Rules.MaxWeek, .slice sA1 sn1 sc1] 32)).alloc (.cells #[.slice none 0 0, .int .i64 0, .int .i64 0, .int .i64 0, .slice none 0 0] 32)) (w.heap.size + 1) 32 #[.slice none 0 0, .int .i64 0, .int .i64 0, .int .i64 0, .slice none 0 0] := heap_new (by simp)
    go_enter Try.func21, Try.ntmps21
    go_wp2_with first
      | (go_at_call 97; refine (impl_IsValidRoster h inferInstance).mono ?_; rintro e w1 ⟨rfl, hL⟩; have hX := Later.trans (w := (w.alloc (.cells #[.slice sA0 sn0 sc0, .int .i64 r.Rules.MinRest, .int .i64 r.Rules.MaxRow, .int .i64 r.Rules.MaxWeek, .slice sA1 sn1 sc1] 32))) inferInstance hL; have hU := Later.trans (w := w) inferInstance hL; have hBz := hB4.later hL; have hcrz := (fun j => hBz.cell j); have hfrz := (fun j => hBz.frozen j))
      | (go_at_call 98; refine (impl_within _ _ _ _).mono ?_; rintro e w' ⟨rfl, rfl⟩)
    have HF := ((((hBz.set_ 0 (.slice none 0 0)).set_ 1 (.int .i64 0)).set_ 2 (.int .i64 0)).set_ 3 (.int .i64 0)).set_ 4 (.slice none 0 0)
    have hr0 := (HF.cell 0).trans (show _ = some (.slice none 0 0 : Value) from rfl)
    have hr1 := (HF.cell 1).trans (show _ = some (.int .i64 0 : Value) from rfl)
    have hr2 := (HF.cell 2).trans (show _ = some (.int .i64 0 : Value) from rfl)
    have hr3 := (HF.cell 3).trans (show _ = some (.int .i64 0 : Value) from rfl)
    have hr4 := (HF.cell 4).trans (show _ = some (.slice none 0 0 : Value) from rfl)
    refine bodyPost_ret (v := .tuple #[.agg #[.slice none 0 0, .int .i64 0, .int .i64 0, .int .i64 0, .slice none 0 0], .bool false]) (by simp [results, Try.results21, go_sem, hr0, hr1, hr2, hr3, hr4]) rfl ?_
    exact ⟨none, 0, 0, none, 0, 0, [], [], rfl, ⟨OSl.nil_ _, by unfold I64; decide, by unfold I64; decide, by unfold I64; decide, OSl.nil_ _⟩, by simp, by simp, inferInstance⟩
  have hb := inB_t.1 hi
  obtain ⟨m, rfl⟩ := Int.eq_ofNat_of_zero_le (show 0 ≤ turns by omega)
  have ok := Lib.hid (rosterFacts hv)
  have hn6 : 1 ≤ sn1 ∧ sn1 ≤ 6 := by rw [hlen.out]; exact ok.out.plan
  have hn61 := hn6.1
  have hn62 := hn6.2
  have hm1 : m ≤ 100 := by omega
  rw [show turnRes r m = ({ r with Plan := turned r m }, true) from by simp [turnRes, hv, hi]]
  clear hn6 hb
  obtain ⟨b, o, _, _, _, _, rfl, _⟩ := Sl.row_ hP (k := 0) (by omega)
  have HB0 : ∀ W [Later (w.alloc (.cells #[.slice sA0 sn0 sc0, .int .i64 r.Rules.MinRest, .int .i64 r.Rules.MaxRow, .int .i64 r.Rules.MaxWeek, .slice (some ⟨b, o, none⟩) sn1 sc1] 32)) W] (j : Nat), W.cell? ⟨w.heap.size, j, none⟩ = #[.slice sA0 sn0 sc0, .int .i64 r.Rules.MinRest, .int .i64 r.Rules.MaxRow, .int .i64 r.Rules.MaxWeek, .slice (some ⟨b, o, none⟩) sn1 sc1][j]? := Later.boxes (t := 32) (fr := (0, 0)) (heap_new (by simp; try omega))
  have hB4 : Blk ((w.alloc (.cells #[.slice sA0 sn0 sc0, .int .i64 r.Rules.MinRest, .int .i64 r.Rules.MaxRow, .int .i64 r.Rules.MaxWeek, .slice (some ⟨b, o, none⟩) sn1 sc1] 32)).alloc (.cells #[.slice none 0 0, .int .i64 0, .int .i64 0, .int .i64 0, .slice none 0 0] 32)) (w.heap.size + 1) 32 #[.slice none 0 0, .int .i64 0, .int .i64 0, .int .i64 0, .slice none 0 0] := heap_new (by simp)
  go_enter Try.func21, Try.ntmps21
  go_wp2_with first
    | (go_at_call 97; refine (impl_IsValidRoster h inferInstance).mono ?_; rintro e w1 ⟨rfl, hL⟩; have hX := Later.trans (w := (w.alloc (.cells #[.slice sA0 sn0 sc0, .int .i64 r.Rules.MinRest, .int .i64 r.Rules.MaxRow, .int .i64 r.Rules.MaxWeek, .slice (some ⟨b, o, none⟩) sn1 sc1] 32))) inferInstance hL; have hU := Later.trans (w := w) inferInstance hL; have hY := Later.trans (w := (w.alloc (.cells #[.slice sA0 sn0 sc0, .int .i64 r.Rules.MinRest, .int .i64 r.Rules.MaxRow, .int .i64 r.Rules.MaxWeek, .slice (some ⟨b, o, none⟩) sn1 sc1] 32)).alloc (.cells #[.slice none 0 0, .int .i64 0, .int .i64 0, .int .i64 0, .slice none 0 0] 32)) inferInstance hL)
    | (go_at_call 98; refine (impl_within _ _ _ _).mono ?_; rintro e w' ⟨rfl, rfl⟩)
    | (go_at_call 99; refine (impl_copyRoster h inferInstance ok.out).mono ?_; rintro e w2 ⟨A2, n2, c2, A3, n3, c3, f2, f3, rfl, oc, nd, lo, L2⟩; have hX2 := Later.trans (w := (w.alloc (.cells #[.slice sA0 sn0 sc0, .int .i64 r.Rules.MinRest, .int .i64 r.Rules.MaxRow, .int .i64 r.Rules.MaxWeek, .slice (some ⟨b, o, none⟩) sn1 sc1] 32))) inferInstance L2; have hU2 := Later.trans (w := w) inferInstance L2; have hY2 := Later.trans (w := (w.alloc (.cells #[.slice sA0 sn0 sc0, .int .i64 r.Rules.MinRest, .int .i64 r.Rules.MaxRow, .int .i64 r.Rules.MaxWeek, .slice (some ⟨b, o, none⟩) sn1 sc1] 32)).alloc (.cells #[.slice none 0 0, .int .i64 0, .int .i64 0, .int .i64 0, .slice none 0 0] 32)) inferInstance L2)
  have hlo2 : ∀ g, g ∈ f2 ++ f3 → w.heap.size + 2 ≤ g := fun g hg => by have := lo g hg; have := hY.size; simp at *; omega
  have B4 := hB4.later hY2
  have OC := Lib.hid oc
  have ND := Lib.hid nd
  have LO := Lib.hid hlo2
  have hocl := oc.l_Plan.len
  have hn3 : sn1 = n3 := by rw [hlen.out]; exact hocl.symm
  clear oc nd lo hlo2 hocl
  subst hn3
  go_loopw [22] (fun i wr => ∃ (k : Nat) (cur : List (List Int)) (fpp : List Nat), k ≤ sn1 ∧ i = .int .i64 k ∧ Hid (cur.length = r.Plan.length ∧ ∀ j, j < k → cur[j]? = (turned r m)[j]?) ∧ Hid (OSl 1 oRows wr A3 sn1 c3 cur fpp) ∧ Hid (OSl 2 oSpan wr A2 n2 c2 r.Shifts f2) ∧ Hid ((f2 ++ fpp).Nodup ∧ ∀ g, g ∈ f2 ++ fpp → w.heap.size + 2 ≤ g ∧ g ≠ w2.heap.size) ∧ Blk wr w2.heap.size 32 #[.slice A2 n2 c2, .int .i64 r.Rules.MinRest, .int .i64 r.Rules.MaxRow, .int .i64 r.Rules.MaxWeek, .slice A3 sn1 c3] ∧ Blk wr (w.heap.size + 1) 32 #[.slice none 0 0, .int .i64 0, .int .i64 0, .int .i64 0, .slice none 0 0] ∧ Later (w.alloc (.cells #[.slice sA0 sn0 sc0, .int .i64 r.Rules.MinRest, .int .i64 r.Rules.MaxRow, .int .i64 r.Rules.MaxWeek, .slice (some ⟨b, o, none⟩) sn1 sc1] 32)) wr) (fun i _ => sn1 - (intOf i).toNat)
  case atStart =>
    have n2' : w2.heap.size ∉ f2 := fun hh => Nat.lt_irrefl _ (OC.out.l_Shifts.lt _ hh)
    have n3' : w2.heap.size ∉ f3 := fun hh => Nat.lt_irrefl _ (OC.out.l_Plan.lt _ hh)
    refine ⟨0, r.Plan, f3, by omega, rfl, Lib.hid ⟨rfl, fun j hj => by omega⟩, Lib.hid ?_, Lib.hid ?_, Lib.hid ⟨ND.out, fun g hg => ⟨LO.out g hg, fun e => ?_⟩⟩, ?_, ?_, inferInstance⟩
    · exact OC.out.l_Plan.later inferInstance
    · exact OC.out.l_Shifts.later inferInstance
    · subst e
      rcases List.mem_append.1 hg with hg | hg
      · exact n2' hg
      · exact n3' hg
    · exact Blk.new _ _ _
    · exact B4.later inferInstance
  case round =>
    obtain ⟨k, cur, fpp, hk, rfl, HC, HO, HS, HN, hB6, hBz, hX3⟩ := hrel
    have hU3 := Later.trans (w := w) inferInstance hX3
    by_cases hlt : k < sn1
    · obtain ⟨b', o', A1, n1, c1, x, hA, hx, hc, hrow⟩ := Sl.row_ hP (k := (k + m) % sn1) (Nat.mod_lt _ (by omega))
      cases hA
      have hx14 : n1 ≤ 1073741824 := by
        have h1 := (ok.out.row _ x hx.out).1
        have h2 := ok.out.days
        have h3 := hrow.len
        unfold days at h2
        omega
      have HXR : Hid ((turned r m)[k]? = some x) := by
        show _ = _
        rw [turned_at (by rw [← hlen.out]; exact hlt), ← hlen.out, rowOf_eq hx.out]
      obtain ⟨y, hy⟩ : ∃ y, cur[k]? = some y := ⟨_, List.getElem?_eq_getElem (by rw [HC.out.1, ← hlen.out]; exact hlt)⟩
      obtain ⟨g, o3, t3, cs, rfl, hBg, hgm, hsz, hrep⟩ := OSl.replace HO.out (List.nodup_append.1 HN.out.1).2.1 hy
      have hg2 := HN.out.2 g (List.mem_append_right _ hgm)
      have hg3 := hg2.1
      have hg4 := hg2.2
      have HREP := Lib.hid hrep
      have HSZ : Hid (o3 + k < cs.size) := by have := hsz 0 (by omega); show _ < _; omega
      have HGM := Lib.hid hgm
      have HXX := Lib.hid hx
      clear hrep hsz hgm hg2 hy hx
      have hne : ¬ sn1 = 0 := by omega
      have hrem : (IntKind.i64.wrap ((k : Int) + (m : Int))).tmod (sn1 : Int) = (((k + m) % sn1 : Nat) : Int) := by
        rw [show IntKind.i64.wrap ((k : Int) + (m : Int)) = (k : Int) + (m : Int) from by rw [IntKind.wrap_i64]; omega, Int.tmod_eq_emod_of_nonneg (by omega)]; simp
      have hql : (k + m) % sn1 < sn1 := Nat.mod_lt _ (by omega)
      generalize (k + m) % sn1 = q at hrem hql hc HXX
      haveI hN1 : New w g := ⟨by omega⟩
      haveI hN2 : New (w.alloc (.cells #[.slice sA0 sn0 sc0, .int .i64 r.Rules.MinRest, .int .i64 r.Rules.MaxRow, .int .i64 r.Rules.MaxWeek, .slice (some ⟨b, o, none⟩) sn1 sc1] 32)) g := ⟨by simp; omega⟩
      go_wp2_with fail
      refine wp_region_held_drew (S := (fun w' => Later w w' ∧ Later (w.alloc (.cells #[.slice sA0 sn0 sc0, .int .i64 r.Rules.MinRest, .int .i64 r.Rules.MaxRow, .int .i64 r.Rules.MaxWeek, .slice (some ⟨b, o, none⟩) sn1 sc1] 32)) w' ∧ Blk w' w2.heap.size 32 #[.slice A2 n2 c2, .int .i64 r.Rules.MinRest, .int .i64 r.Rules.MaxRow, .int .i64 r.Rules.MaxWeek, .slice (some ⟨g, o3, none⟩) sn1 c3])) (by kernel_rfl) (by exact ⟨inferInstance, inferInstance, hB6.drew⟩) (fun hHeld => ?_)
      refine wpAnyH_take (i := 0) (v := ?_) (by simp only [List.getElem?_toArray, List.getElem?_cons_zero] <;> rfl) (by kernel_rfl) (by kernel_rfl) (by kernel_rfl) (by exact fun _ _ _ h => h) (Or.inl ⟨by kernel_rfl, ?_⟩) (by assumption) ?_
      rotate_left
      · intro w' hSw; (try dsimp only at hSw); go_simp; try with_reducible rfl
      try simp only [Act.put, List.setIfInBounds_toArray, List.set_cons_zero, List.set_cons_succ]
      refine wpAnyH_take (i := 1) (v := ?_) (by simp only [List.getElem?_toArray, List.getElem?_cons_succ, List.getElem?_cons_zero] <;> rfl) (by kernel_rfl) (by kernel_rfl) (by kernel_rfl) (by exact fun _ _ _ h => h) (Or.inl ⟨by kernel_rfl, ?_⟩) (by assumption) ?_
      rotate_left
      · intro w' hSw; (try dsimp only at hSw); have hcr := fun j => hSw.2.2.cell j; go_simp; try with_reducible rfl
      try simp only [Act.put, List.setIfInBounds_toArray, List.set_cons_zero, List.set_cons_succ]
      refine wpAnyH_take (i := 2) (v := ?_) (by simp only [List.getElem?_toArray, List.getElem?_cons_succ, List.getElem?_cons_zero] <;> rfl) (by kernel_rfl) (by kernel_rfl) (by kernel_rfl) (by exact fun _ _ _ h => h) (Or.inl ⟨by kernel_rfl, ?_⟩) (by assumption) ?_
      rotate_left
      · intro w' hSw; (try dsimp only at hSw); have hcr := fun j => hSw.2.2.cell j; go_simp; try with_reducible rfl
      try simp only [Act.put, List.setIfInBounds_toArray, List.set_cons_zero, List.set_cons_succ]
      refine wpAnyH_take (i := 3) (v := ?_) (by simp only [List.getElem?_toArray, List.getElem?_cons_succ, List.getElem?_cons_zero] <;> rfl) (by kernel_rfl) (by kernel_rfl) (by kernel_rfl) (by exact fun _ _ _ h => h) (Or.inl ⟨by kernel_rfl, ?_⟩) (by assumption) ?_
      rotate_left
      · intro w' hSw; (try dsimp only at hSw); have hcr := fun j => hSw.2.2.cell j; go_simp; try with_reducible rfl
      try simp only [Act.put, List.setIfInBounds_toArray, List.set_cons_zero, List.set_cons_succ]
      refine wpAnyH_take (i := 4) (v := ?_) (by simp only [List.getElem?_toArray, List.getElem?_cons_succ, List.getElem?_cons_zero] <;> rfl) (by kernel_rfl) (by kernel_rfl) (by kernel_rfl) (by exact fun _ _ _ h => h) (Or.inl ⟨by kernel_rfl, ?_⟩) (by assumption) ?_
      rotate_left
      · intro w' hSw; (try dsimp only at hSw); have hcr := fun j => hSw.2.2.cell j; go_simp; try with_reducible rfl
      try simp only [Act.put, List.setIfInBounds_toArray, List.set_cons_zero, List.set_cons_succ]
      refine wpAnyH_take (i := 5) (v := ?_) (by simp only [List.getElem?_toArray, List.getElem?_cons_succ, List.getElem?_cons_zero] <;> rfl) (by kernel_rfl) (by kernel_rfl) (by kernel_rfl) (by exact fun _ _ _ h => h) (Or.inl ⟨by kernel_rfl, ?_⟩) (by assumption) ?_
      rotate_left
      · intro w' hSw; (try dsimp only at hSw); have hcr := fun j => hSw.2.2.cell j; go_simp; try with_reducible rfl
      try simp only [Act.put, List.setIfInBounds_toArray, List.set_cons_zero, List.set_cons_succ]
      refine wpAnyH_take (i := 6) (v := ?_) (by simp only [List.getElem?_toArray, List.getElem?_cons_succ, List.getElem?_cons_zero] <;> rfl) (by kernel_rfl) (by kernel_rfl) (by kernel_rfl) (by exact fun _ _ _ h => h) (Or.inl ⟨by kernel_rfl, ?_⟩) (by assumption) ?_
      rotate_left
      · intro w' hSw; (try dsimp only at hSw); have hcr := fun j => hSw.2.2.cell j; go_simp; try with_reducible rfl
      try simp only [Act.put, List.setIfInBounds_toArray, List.set_cons_zero, List.set_cons_succ]
      refine wpAnyH_take (i := 7) (v := ?_) (by simp only [List.getElem?_toArray, List.getElem?_cons_succ, List.getElem?_cons_zero] <;> rfl) (by kernel_rfl) (by kernel_rfl) (by kernel_rfl) (by exact fun _ _ _ h => h) (Or.inl ⟨by kernel_rfl, ?_⟩) (by assumption) ?_
      rotate_left
      · intro w' hSw; (try dsimp only at hSw); have hcr := fun j => hSw.2.2.cell j; go_simp; try with_reducible rfl
      try simp only [Act.put, List.setIfInBounds_toArray, List.set_cons_zero, List.set_cons_succ]
      refine wpAnyH_take (i := 8) (v := ?_) (by simp only [List.getElem?_toArray, List.getElem?_cons_succ, List.getElem?_cons_zero] <;> rfl) (by kernel_rfl) (by kernel_rfl) (by kernel_rfl) (by exact fun _ _ _ h => h) (Or.inl ⟨by kernel_rfl, ?_⟩) (by assumption) ?_
      rotate_left
      · intro w' hSw; (try dsimp only at hSw); have hcr := fun j => hSw.2.2.cell j; go_simp; try with_reducible rfl
      try simp only [Act.put, List.setIfInBounds_toArray, List.set_cons_zero, List.set_cons_succ]
      refine wpAnyH_take (i := 9) (v := ?_) (by simp only [List.getElem?_toArray, List.getElem?_cons_succ, List.getElem?_cons_zero] <;> rfl) (by kernel_rfl) (by kernel_rfl) (by kernel_rfl) (by exact fun _ _ _ h => h) (Or.inl ⟨by kernel_rfl, ?_⟩) (by assumption) ?_
      rotate_left
      · intro w' hSw; (try dsimp only at hSw); have hcr := fun j => hSw.2.2.cell j; go_simp; try with_reducible rfl
      try simp only [Act.put, List.setIfInBounds_toArray, List.set_cons_zero, List.set_cons_succ]
      refine wpAnyH_take (i := 10) (v := ?_) (by simp only [List.getElem?_toArray, List.getElem?_cons_succ, List.getElem?_cons_zero] <;> rfl) (by kernel_rfl) (by kernel_rfl) (by kernel_rfl) (by exact fun _ _ _ h => h) (Or.inl ⟨by kernel_rfl, ?_⟩) (by assumption) ?_
      rotate_left
      · intro w' hSw; (try dsimp only at hSw); have hcr := fun j => hSw.2.2.cell j; go_simp; try with_reducible rfl
      try simp only [Act.put, List.setIfInBounds_toArray, List.set_cons_zero, List.set_cons_succ]
      refine wpAnyH_take (i := 11) (v := ?_) (by simp only [List.getElem?_toArray, List.getElem?_cons_succ, List.getElem?_cons_zero] <;> rfl) (by kernel_rfl) (by kernel_rfl) (by kernel_rfl) (by exact fun _ _ _ h => h) (Or.inl ⟨by kernel_rfl, ?_⟩) (by assumption) ?_
      rotate_left
      · intro w' hSw; (try dsimp only at hSw); have hcr := fun j => hSw.2.2.cell j; go_simp; try with_reducible rfl
      try simp only [Act.put, List.setIfInBounds_toArray, List.set_cons_zero, List.set_cons_succ]
      refine wpAnyH_take (i := 12) (v := ?_) (by simp only [List.getElem?_toArray, List.getElem?_cons_succ, List.getElem?_cons_zero] <;> rfl) (by kernel_rfl) (by kernel_rfl) (by kernel_rfl) (by exact fun _ _ _ h => h) (Or.inl ⟨by kernel_rfl, ?_⟩) (by assumption) ?_
      rotate_left
      · intro w' hSw; (try dsimp only at hSw); have hcr := fun j => hSw.2.2.cell j; go_simp; try with_reducible rfl
      try simp only [Act.put, List.setIfInBounds_toArray, List.set_cons_zero, List.set_cons_succ]
      refine wpAnyH_take (i := 13) (v := ?_) (by simp only [List.getElem?_toArray, List.getElem?_cons_succ, List.getElem?_cons_zero] <;> rfl) (by kernel_rfl) (by kernel_rfl) (by kernel_rfl) (by exact fun _ _ _ h => h) (Or.inl ⟨by kernel_rfl, ?_⟩) (by assumption) ?_
      rotate_left
      · intro w' hSw; (try dsimp only at hSw); have hcr := fun j => hSw.2.2.cell j; go_simp; try with_reducible rfl
      try simp only [Act.put, List.setIfInBounds_toArray, List.set_cons_zero, List.set_cons_succ]
      refine wpAnyH_ready (rs := [14]) (by kernel_rfl) (by simp) (AllReadyH.cons rfl (fun K hK => ?_) AllReadyH.nil)
      go_simp
      (go_at_call 100; refine (slices_CloneInts hrow inferInstance hx14).mono ?_; rintro e w3 ⟨A4, n4, c4, f4, rfl, o4, nd4, lo4, L3⟩; have hX4 := Later.trans (w := (w.alloc (.cells #[.slice sA0 sn0 sc0, .int .i64 r.Rules.MinRest, .int .i64 r.Rules.MaxRow, .int .i64 r.Rules.MaxWeek, .slice (some ⟨b, o, none⟩) sn1 sc1] 32))) inferInstance L3; have hU4 := Later.trans (w := w) inferInstance L3; have hB6' := hB6.drew.later L3; have hBg' := hBg.drew.later L3; have HBZ := Lib.hid (hBz.drew.later L3))
      refine hK.out _ _ (by exact ⟨inferInstance, inferInstance, hB6'⟩) (fun hHeld => ?_)
      try simp only [Act.put, List.setIfInBounds_toArray, List.set_cons_zero, List.set_cons_succ]
      obtain ⟨v0, hv0⟩ := hBg'.get HSZ.out
      have hfz := hBg'.frozen (o3 + k)
      refine wpAnyH_take (i := 15) (v := ?_) (by simp only [List.getElem?_toArray, List.getElem?_cons_succ, List.getElem?_cons_zero] <;> rfl) (by kernel_rfl) (by kernel_rfl) (by kernel_rfl) (by exact fun _ _ _ h => h) (Or.inl ⟨by kernel_rfl, ?_⟩) (by assumption) ?_
      rotate_left
      · intro w' hSw; (try dsimp only at hSw); have hcr := fun j => hSw.2.2.cell j; go_simp; try with_reducible rfl
      try simp only [Act.put, List.setIfInBounds_toArray, List.set_cons_zero, List.set_cons_succ]
      refine wpAnyH_ready (rs := [16]) (by kernel_rfl) (by simp) (AllReadyH.cons rfl (fun K hK => ?_) AllReadyH.nil)
      go_simp
      skip
      refine hK.out _ _ (by exact ⟨inferInstance, inferInstance, hB6'.far (Ne.symm hg4) _⟩) (fun hHeld => ?_)
      try simp only [Act.put, List.setIfInBounds_toArray, List.set_cons_zero, List.set_cons_succ]
      refine wpAnyH_done (by kernel_rfl) ?_ _
      go_wp2
      go_roundw
      case rel =>
        have hf2 := HS.out.lt
        have hBL := hBg.lt
        obtain ⟨fp', o', nd', hmem⟩ := HREP.out w3 (w3.setCell ⟨g, o3 + k, none⟩ (.slice A4 n4 c4)) (cs.setIfInBounds (o3 + k) (.slice A4 n4 c4)) [.slice A4 n4 c4] x f4 (Later.trans (w := wr) inferInstance L3) ⟨A4, n4, c4, rfl, o4⟩ nd4 lo4 (Touch.set_one _ _ _ _) (hBg'.set_ _ _)
          (fun i hi => set_ne _ (by omega)) rfl (fun i v hv => by
            match i, hv with
            | 0, hv => simp at hv; subst hv; simpa using set_eq _ HSZ.out)
        obtain ⟨na, nb, nc⟩ := List.nodup_append.1 HN.out.1
        refine ⟨k + 1, cur.set k x, fp', by omega, by go_num, Lib.hid ⟨by rw [List.length_set]; exact HC.out.1, fun j hj => ?_⟩, Lib.hid o', Lib.hid ((HS.out.later (Later.trans (w := wr) inferInstance L3)).touch (Touch.set_one _ _ _ _) (fun b hb hbg => nc b hb g HGM.out (by simpa using hbg))), Lib.hid ⟨List.nodup_append.2 ⟨na, nd', fun b hb b2 hb2 e => ?_⟩, fun b hb => ?_⟩, hB6'.far (Ne.symm hg4) _, HBZ.out.far (by show _ ≠ g; omega) _, inferInstance⟩
        · by_cases e : j = k
          · subst e
            rw [List.getElem?_set_self (by rw [HC.out.1, ← hlen.out]; exact hlt)]
            exact HXR.out.symm
          · rw [List.getElem?_set_ne (Ne.symm e)]
            exact HC.out.2 j (by omega)
        · subst e
          rcases hmem b hb2 with h' | h'
          · exact nc b hb b h' rfl
          · have := lo4 b h'; have := hf2 b hb; simp at *; omega
        · rcases List.mem_append.1 hb with h' | h'
          · exact HN.out.2 b (List.mem_append_left _ h')
          · rcases hmem b h' with h' | h'
            · exact HN.out.2 b (List.mem_append_right _ h')
            · have h1 := lo4 b h'
              have h2 := hB6.lt
              have h3 := hU2.size
              have h4 := hBz.lt
              simp at h1
              omega
      case measure => simp [intOf]; omega
    · have hks : k = sn1 := by omega
      have hcr6 := fun j => hB6.cell j
      have hcrz := fun j => hBz.cell j
      have hfrz := fun j => hBz.frozen j
      go_wp2
      have HF := ((((hBz.set_ 0 (.slice A2 n2 c2)).set_ 1 (.int .i64 r.Rules.MinRest)).set_ 2 (.int .i64 r.Rules.MaxRow)).set_ 3 (.int .i64 r.Rules.MaxWeek)).set_ 4 (.slice A3 sn1 c3)
      have hr0 := (HF.cell 0).trans (show _ = some (.slice A2 n2 c2 : Value) from rfl)
      have hr1 := (HF.cell 1).trans (show _ = some (.int .i64 r.Rules.MinRest : Value) from rfl)
      have hr2 := (HF.cell 2).trans (show _ = some (.int .i64 r.Rules.MaxRow : Value) from rfl)
      have hr3 := (HF.cell 3).trans (show _ = some (.int .i64 r.Rules.MaxWeek : Value) from rfl)
      have hr4 := (HF.cell 4).trans (show _ = some (.slice A3 sn1 c3 : Value) from rfl)
      have hcur : cur = turned r m := List.ext_getElem? fun j => by
        by_cases hj : j < k
        · exact HC.out.2 j hj
        · rw [List.getElem?_eq_none (by rw [HC.out.1, ← hlen.out]; omega), List.getElem?_eq_none (by rw [turned_len, ← hlen.out]; omega)]
      subst hcur
      have hb2 : w.heap.size + 1 ∉ f2 := fun hh => by have := HN.out.2 _ (List.mem_append_left _ hh); omega
      have hb3 : w.heap.size + 1 ∉ fpp := fun hh => by have := HN.out.2 _ (List.mem_append_right _ hh); omega
      refine bodyPost_ret (v := .tuple #[.agg #[.slice A2 n2 c2, .int .i64 r.Rules.MinRest, .int .i64 r.Rules.MaxRow, .int .i64 r.Rules.MaxWeek, .slice A3 sn1 c3], .bool true]) (by simp [results, Try.results21, go_sem, hr0, hr1, hr2, hr3, hr4]) rfl ?_
      exact ⟨A2, n2, c2, A3, sn1, c3, f2, fpp, rfl, ⟨((((HS.out.setc hb2 _ _).setc hb2 _ _).setc hb2 _ _).setc hb2 _ _).setc hb2 _ _, h.i_Rules_MinRest, h.i_Rules_MaxRow, h.i_Rules_MaxWeek, ((((HO.out.setc hb3 _ _).setc hb3 _ _).setc hb3 _ _).setc hb3 _ _).setc hb3 _ _⟩, HN.out.1, fun g hg => by have := HN.out.2 g hg; omega, inferInstance⟩
end Go.Proofs.Ytbkeccpjcmhhjaa
