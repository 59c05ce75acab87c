/-
  Rosters: spec.TurnRoster.
-/
import Derived.Test.YtbkeccpjcmhhjaaTurnB
import Derived.Test.YtbkeccpjcmhhjaaORow
import Derived.Test.YtbkeccpjcmhhjaaOwnK
import Derived.Deep.RegionHeld3
namespace Go.Proofs.Ytbkeccpjcmhhjaa
open Go Go.RowKit
set_option linter.unusedVariables false
set_option maxRecDepth 100000
set_option linter.unusedSimpArgs false
theorem own_litT {W : World} {base g sz : Nat} {t : TypeId} (h : W.heap[g]? = some (.cells #[] t (0, 0))) (hb : base ≤ g) : W.ownsRow base t sz (.slice (some ⟨g, 0, none⟩) 0 0) 0 [] :=
  ⟨by simp, .inr ⟨g, 0, #[], rfl, hb, h, Nat.le_refl _, by unfold maxLen; omega, by simp, by simp⟩⟩
/-- Flat structs in a block that the slice owns: its blocks are that one. -/
theorem own_flat_fp {α : Type} {sz : Nat} {r : Rep α} {enc : α → List Value} [he : Enc sz r enc] {w : World} {base : Nat} {e : TypeId} {v : Value} {n : Nat} {l : List α} (h : w.ownsRow base e sz v n (l.flatMap enc)) (hn : n = l.length) (hok : ∀ x, x ∈ l → ∀ W, r W (enc x) x) :
    ∃ A c fp, v = .slice A n c ∧ OSl sz (oFlat r) w A n c l fp ∧ fp.Nodup ∧ (∀ g, g ∈ fp → base ≤ g) ∧ ∀ g, g ∈ fp → ∃ cs, Blk w g e cs := by
  obtain ⟨A, c, fp, rfl, ho, hnd, hlo⟩ := OSl.of_flat (r := r) h hn hok
  refine ⟨A, c, fp, rfl, ho, hnd, hlo, ?_⟩
  rcases h.2 with ⟨e1, _⟩ | ⟨g, cap, cur, e1, hb, hg, _⟩
  · cases e1
    rcases ho.own with ⟨_, rfl⟩ | ⟨g, o, t, cs, fps, ha, _⟩
    · intro g hg; cases hg
    · cases ha
  · cases e1
    rcases ho.own with ⟨_, rfl⟩ | ⟨g', o, t, cs, fps, ha, _, rfl, hl, hel⟩
    · intro g hg; cases hg
    · cases ha
      intro k hk
      rcases List.mem_cons.1 hk with rfl | hk
      · exact ⟨cur, hg⟩
      · obtain ⟨f, hf, hkf⟩ := List.mem_flatten.1 hk
        obtain ⟨i, hi, rfl⟩ := List.getElem_of_mem hf
        obtain ⟨es, f, hf', _, _, hr⟩ := hel i l[i] (List.getElem?_eq_getElem (by omega))
        rw [List.getElem?_eq_getElem hi] at hf'
        cases hf'
        rw [hr.2] at hkf
        cases hkf
/-- What lies below a mark, as a world. -/
def cutW (w : World) (b : Nat) : World := { w with heap := w.heap.extract 0 b }
theorem cutW_size {w : World} {b : Nat} (hb : b ≤ w.heap.size) : (cutW w b).heap.size = b := by simp [cutW]; omega
theorem cutW_at {w : World} {b k : Nat} (hk : k < b) : (cutW w b).heap[k]? = w.heap[k]? := by simp only [cutW, Array.getElem?_extract]; split <;> first | (congr 1; omega) | (rw [Array.getElem?_eq_none]; omega)
theorem cutW_later {w : World} {b : Nat} (hb : b ≤ w.heap.size) : Later (cutW w b) w :=
  ⟨⟨rfl, rfl, rfl, by rw [cutW_size hb]; exact hb, fun k hk => by rw [cutW_size hb] at hk; exact (cutW_at hk).symm⟩⟩
theorem Blk.cut {w : World} {g b : Nat} {t : TypeId} {cs : Array Value} (h : Blk w g t cs) (hb : g < b) : Blk (cutW w b) g t cs := (cutW_at hb).trans h
theorem OSl.cut {α : Type} {sz : Nat} {ro : ORep α} [OStays ro] {w : World} {A : Option Addr} {n c b : Nat} {l : List α} {fp : List Nat} (h : OSl sz ro w A n c l fp) (hb : ∀ g, g ∈ fp → g < b) : OSl sz ro (cutW w b) A n c l fp := h.keep fun g hg => cutW_at (hb g hg)
theorem ORows.set_ {w : World} {base b : Nat} {e : TypeId} {v : Value} {ls : List (List Int)} (h : ORows w base e v ls) (hb : b < base) (i : Nat) (u : Value) : ORows (w.setCell ⟨b, i, none⟩ u) base e v ls := by
  obtain ⟨vs, fps, h1, h2, h3, h4, h5, h6⟩ := h
  refine ⟨vs, fps, own_set h1 (fun k hk => by have := (h1.lt k hk).1; omega) i u, h2, fun k x hx => ?_, h4, h5, h6⟩
  obtain ⟨A, n, c, f, a1, a2, a3⟩ := h3 k x hx
  exact ⟨A, n, c, f, a1, a2, a3.setc (fun hm => by have := h5 b (mem_flatten_at a2 hm); omega) i u⟩
theorem Blk.five {w : World} {g : Nat} {t : TypeId} {a b c d e : Value} (h : Blk w g t #[a, b, c, d, e]) : (∀ W [Later w W], W.cell? ⟨g, 0, none⟩ = some a) ∧ (∀ W [Later w W], W.cell? ⟨g, 1, none⟩ = some b) ∧ (∀ W [Later w W], W.cell? ⟨g, 2, none⟩ = some c) ∧ (∀ W [Later w W], W.cell? ⟨g, 3, none⟩ = some d) ∧ (∀ W [Later w W], W.cell? ⟨g, 4, none⟩ = some e) :=
  ⟨fun W hW => (h.later hW).cell 0, fun W hW => (h.later hW).cell 1, fun W hW => (h.later hW).cell 2, fun W hW => (h.later hW).cell 3, fun W hW => (h.later hW).cell 4⟩
theorem Blk.put5 {w : World} {g : Nat} {t : TypeId} {a0 b0 c0 d0 e0 a b c d e : Value} (h : Blk w g t #[a0, b0, c0, d0, e0]) : Blk (((((w.setCell ⟨g, 0, none⟩ a).setCell ⟨g, 1, none⟩ b).setCell ⟨g, 2, none⟩ c).setCell ⟨g, 3, none⟩ d).setCell ⟨g, 4, none⟩ e) g t #[a, b, c, d, e] :=
  ((((h.set_ 0 a).set_ 1 b).set_ 2 c).set_ 3 d).set_ 4 e
theorem Blk.by5 {w : World} {g k : Nat} {t : TypeId} {cs : Array Value} {a b c d e : Value} (h : Blk w g t cs) (hne : ¬ g = k) : Blk (((((w.setCell ⟨k, 0, none⟩ a).setCell ⟨k, 1, none⟩ b).setCell ⟨k, 2, none⟩ c).setCell ⟨k, 3, none⟩ d).setCell ⟨k, 4, none⟩ e) g t cs :=
  ((((h.far (p := ⟨k, 0, none⟩) hne a).far (p := ⟨k, 1, none⟩) hne b).far (p := ⟨k, 2, none⟩) hne c).far (p := ⟨k, 3, none⟩) hne d).far (p := ⟨k, 4, none⟩) hne e
theorem OSl.by5 {α : Type} {sz : Nat} {ro : ORep α} [OStays ro] {w : World} {A : Option Addr} {n m : Nat} {l : List α} {fp : List Nat} {k : Nat} {a b c d e : Value} (h : OSl sz ro w A n m l fp) (hne : k ∉ fp) : OSl sz ro (((((w.setCell ⟨k, 0, none⟩ a).setCell ⟨k, 1, none⟩ b).setCell ⟨k, 2, none⟩ c).setCell ⟨k, 3, none⟩ d).setCell ⟨k, 4, none⟩ e) A n m l fp :=
  ((((h.setc hne 0 a).setc hne 1 b).setc hne 2 c).setc hne 3 d).setc hne 4 e
theorem Sl.all_enc {α : Type} {sz : Nat} {r : Rep α} {enc : α → List Value} [he : Enc sz r enc] {w : World} {A : Option Addr} {n c : Nat} {l : List α} (h : Sl sz r w A n c l) : ∀ x, x ∈ l → ∀ W, r W (enc x) x := by
  intro x hx W
  obtain ⟨k, hk, rfl⟩ := List.getElem_of_mem hx
  obtain ⟨b, o, es, _, _, _, hr⟩ := h.el k _ (List.getElem?_eq_getElem hk)
  exact he.all hr W
theorem cutW_of {w W : World} {b : Nat} (h : Later w W) (h1 : w.heap.size ≤ b) (h2 : b ≤ W.heap.size) : Later w (cutW W b) :=
  ⟨⟨h.below.os, h.below.tape, h.below.output, by rw [cutW_size h2]; exact h1, fun k hk => (cutW_at (by omega)).trans (h.below.block k hk)⟩⟩
theorem take_one {l : List (List Int)} {k : Nat} {x : List Int} (h : l[k]? = some x) : l.take k ++ [x] = l.take (k + 1) := by
  rw [List.take_add_one, h]; rfl
set_option maxHeartbeats 8000000 in
theorem spec_TurnRoster {w0 w : World} {sA0 : Option Addr} {sn0 sc0 : Nat} {sA1 : Option Addr} {sn1 sc1 : Nat} {r : Roster} (h : RosterAt w0 sA0 sn0 sc0 sA1 sn1 sc1 r) (hl : Later w0 w) (turns : Int) :
    Calls Try.prog 19 #[.agg #[.slice sA0 sn0 sc0, .int .i64 r.Rules.MinRest, .int .i64 r.Rules.MaxRow, .int .i64 r.Rules.MaxWeek, .slice sA1 sn1 sc1], .int .i64 turns] w (fun e w' => ∃ sA0 sn0 sc0 sA1 sn1 sc1 sf0 sf1, e = .returned (.tuple #[.agg #[.slice sA0 sn0 sc0, .int .i64 (turnRes r turns).1.Rules.MinRest, .int .i64 (turnRes r turns).1.Rules.MaxRow, .int .i64 (turnRes r turns).1.Rules.MaxWeek, .slice sA1 sn1 sc1], .bool (turnRes r turns).2]) ∧ RosterOw w' sA0 sn0 sc0 sA1 sn1 sc1 (turnRes r turns).1 sf0 sf1 ∧ (sf0 ++ sf1).Nodup ∧ (∀ g, g ∈ sf0 ++ sf1 → w.heap.size ≤ g) ∧ Later w w') := by
  replace h := h.later hl
  have hP := h.l_Plan
  have hn := hP.le
  have hlen := Lib.hid hP.len
  by_cases hv : okRoster r = true
  rotate_left
  · rw [show turnRes r turns = (⟨[], ⟨0, 0, 0⟩, []⟩, false) from by simp [turnRes, hv]]
    have hv0 : okRoster r = false := by simpa using hv
    clear hv
    obtain ⟨wx, hwx⟩ : ∃ wx : World, wx = ((w.alloc (.cells #[.slice sA0 sn0 sc0, .int .i64 r.Rules.MinRest, .int .i64 r.Rules.MaxRow, .int .i64 r.Rules.MaxWeek, .slice sA1 sn1 sc1] 32)).alloc (.cells #[.slice none 0 0, .int .i64 0, .int .i64 0, .int .i64 0, .slice none 0 0] 32)) := ⟨_, rfl⟩
    have HBX : Blk wx (w.heap.size + 1) 32 #[.slice none 0 0, .int .i64 0, .int .i64 0, .int .i64 0, .slice none 0 0] := by rw [hwx]; exact heap_new (by simp)
    have HB0 : ∀ W [Later (w.alloc (.cells #[.slice sA0 sn0 sc0, .int .i64 r.Rules.MinRest, .int .i64 r.Rules.MaxRow, .int .i64 r.Rules.MaxWeek, .slice sA1 sn1 sc1] 32)) W] (j : Nat), W.cell? ⟨w.heap.size, j, none⟩ = #[.slice sA0 sn0 sc0, .int .i64 r.Rules.MinRest, .int .i64 r.Rules.MaxRow, .int .i64 r.Rules.MaxWeek, .slice sA1 sn1 sc1][j]? := Later.boxes (t := 32) (fr := (0, 0)) (heap_new (by simp; try omega)); obtain ⟨wb, hwb⟩ : ∃ wb : World, wb = (w.alloc (.cells #[.slice sA0 sn0 sc0, .int .i64 r.Rules.MinRest, .int .i64 r.Rules.MaxRow, .int .i64 r.Rules.MaxWeek, .slice sA1 sn1 sc1] 32)) := ⟨_, rfl⟩; haveI hbW : Later wb (w.alloc (.cells #[.slice sA0 sn0 sc0, .int .i64 r.Rules.MinRest, .int .i64 r.Rules.MaxRow, .int .i64 r.Rules.MaxWeek, .slice sA1 sn1 sc1] 32)) := (by rw [hwb]; exact Later.rfl_); haveI hww : Later w wb := (by rw [hwb]; infer_instance); rw [← hwb] at HB0; have hbE := Lib.hid (congrArg (fun x : World => x.heap.size) hwb); clear hwb
    replace h := h.later hww
    have H := Lib.hid h
    haveI hxW : Later wx ((w.alloc (.cells #[.slice sA0 sn0 sc0, .int .i64 r.Rules.MinRest, .int .i64 r.Rules.MaxRow, .int .i64 r.Rules.MaxWeek, .slice sA1 sn1 sc1] 32)).alloc (.cells #[.slice none 0 0, .int .i64 0, .int .i64 0, .int .i64 0, .slice none 0 0] 32)) := by rw [hwx]; exact Later.rfl_
    haveI hbx : Later wb wx := by rw [hwx]; infer_instance
    have hzb : wb.heap.size ≤ w.heap.size + 1 := by have := hbE.out; simp at this; omega
    haveI hN : New wb (w.heap.size + 1) := ⟨hzb⟩
    clear hwx h hP
    go_enter Try.func19, Try.ntmps19
    go_wp2_with first
      | (go_at_call 92; refine (spec_l14Good H.out inferInstance).mono ?_; rintro e w1 ⟨rfl, L1⟩; have X1 := Later.trans (w := wb) inferInstance L1; have Z1 := Later.trans (w := wx) inferInstance L1; have hB := HBX.later Z1; have hcr := fun i => hB.cell i; have hfr := fun i => hB.frozen i)
      | (go_at_call 93; refine (spec_l1In _ _ _ _).mono ?_; rintro e w' ⟨rfl, rfl⟩)
    have HF := ((((hB.set_ 0 (.slice none 0 0)).set_ 1 (.int .i64 0)).set_ 2 (.int .i64 0)).set_ 3 (.int .i64 0)).set_ 4 (.slice none 0 0)
    have hr0 := (HF.cell 0).trans (show _ = some (.slice none 0 0 : Value) from rfl)
    have hr1 := (HF.cell 1).trans (show _ = some (.int .i64 0 : Value) from rfl)
    have hr2 := (HF.cell 2).trans (show _ = some (.int .i64 0 : Value) from rfl)
    have hr3 := (HF.cell 3).trans (show _ = some (.int .i64 0 : Value) from rfl)
    have hr4 := (HF.cell 4).trans (show _ = some (.slice none 0 0 : Value) from rfl)
    refine bodyPost_ret (v := .tuple #[.agg #[.slice none 0 0, .int .i64 0, .int .i64 0, .int .i64 0, .slice none 0 0], .bool false]) (by simp [results, Try.results19, go_sem, hr0, hr1, hr2, hr3, hr4]) rfl ?_
    exact ⟨none, 0, 0, none, 0, 0, [], [], rfl, ⟨OSl.nil_ _, by unfold I64; decide, by unfold I64; decide, by unfold I64; decide, OSl.nil_ _⟩, by simp, by simp, hww.trans inferInstance⟩
  by_cases hi : inB turns 0 100 = true
  rotate_left
  · rw [show turnRes r turns = (⟨[], ⟨0, 0, 0⟩, []⟩, false) from by simp [turnRes, hi]]
    have hi0 : inB turns 0 100 = false := by simpa using hi
    clear hi
    obtain ⟨wx, hwx⟩ : ∃ wx : World, wx = ((w.alloc (.cells #[.slice sA0 sn0 sc0, .int .i64 r.Rules.MinRest, .int .i64 r.Rules.MaxRow, .int .i64 r.Rules.MaxWeek, .slice sA1 sn1 sc1] 32)).alloc (.cells #[.slice none 0 0, .int .i64 0, .int .i64 0, .int .i64 0, .slice none 0 0] 32)) := ⟨_, rfl⟩
    have HBX : Blk wx (w.heap.size + 1) 32 #[.slice none 0 0, .int .i64 0, .int .i64 0, .int .i64 0, .slice none 0 0] := by rw [hwx]; exact heap_new (by simp)
    have HB0 : ∀ W [Later (w.alloc (.cells #[.slice sA0 sn0 sc0, .int .i64 r.Rules.MinRest, .int .i64 r.Rules.MaxRow, .int .i64 r.Rules.MaxWeek, .slice sA1 sn1 sc1] 32)) W] (j : Nat), W.cell? ⟨w.heap.size, j, none⟩ = #[.slice sA0 sn0 sc0, .int .i64 r.Rules.MinRest, .int .i64 r.Rules.MaxRow, .int .i64 r.Rules.MaxWeek, .slice sA1 sn1 sc1][j]? := Later.boxes (t := 32) (fr := (0, 0)) (heap_new (by simp; try omega)); obtain ⟨wb, hwb⟩ : ∃ wb : World, wb = (w.alloc (.cells #[.slice sA0 sn0 sc0, .int .i64 r.Rules.MinRest, .int .i64 r.Rules.MaxRow, .int .i64 r.Rules.MaxWeek, .slice sA1 sn1 sc1] 32)) := ⟨_, rfl⟩; haveI hbW : Later wb (w.alloc (.cells #[.slice sA0 sn0 sc0, .int .i64 r.Rules.MinRest, .int .i64 r.Rules.MaxRow, .int .i64 r.Rules.MaxWeek, .slice sA1 sn1 sc1] 32)) := (by rw [hwb]; exact Later.rfl_); haveI hww : Later w wb := (by rw [hwb]; infer_instance); rw [← hwb] at HB0; have hbE := Lib.hid (congrArg (fun x : World => x.heap.size) hwb); clear hwb
    replace h := h.later hww
    have H := Lib.hid h
    haveI hxW : Later wx ((w.alloc (.cells #[.slice sA0 sn0 sc0, .int .i64 r.Rules.MinRest, .int .i64 r.Rules.MaxRow, .int .i64 r.Rules.MaxWeek, .slice sA1 sn1 sc1] 32)).alloc (.cells #[.slice none 0 0, .int .i64 0, .int .i64 0, .int .i64 0, .slice none 0 0] 32)) := by rw [hwx]; exact Later.rfl_
    haveI hbx : Later wb wx := by rw [hwx]; infer_instance
    have hzb : wb.heap.size ≤ w.heap.size + 1 := by have := hbE.out; simp at this; omega
    haveI hN : New wb (w.heap.size + 1) := ⟨hzb⟩
    clear hwx h hP
    go_enter Try.func19, Try.ntmps19
    go_wp2_with first
      | (go_at_call 92; refine (spec_l14Good H.out inferInstance).mono ?_; rintro e w1 ⟨rfl, L1⟩; have X1 := Later.trans (w := wb) inferInstance L1; have Z1 := Later.trans (w := wx) inferInstance L1; have hB := HBX.later Z1; have hcr := fun i => hB.cell i; have hfr := fun i => hB.frozen i)
      | (go_at_call 93; refine (spec_l1In _ _ _ _).mono ?_; rintro e w' ⟨rfl, rfl⟩)
    have HF := ((((hB.set_ 0 (.slice none 0 0)).set_ 1 (.int .i64 0)).set_ 2 (.int .i64 0)).set_ 3 (.int .i64 0)).set_ 4 (.slice none 0 0)
    have hr0 := (HF.cell 0).trans (show _ = some (.slice none 0 0 : Value) from rfl)
    have hr1 := (HF.cell 1).trans (show _ = some (.int .i64 0 : Value) from rfl)
    have hr2 := (HF.cell 2).trans (show _ = some (.int .i64 0 : Value) from rfl)
    have hr3 := (HF.cell 3).trans (show _ = some (.int .i64 0 : Value) from rfl)
    have hr4 := (HF.cell 4).trans (show _ = some (.slice none 0 0 : Value) from rfl)
    refine bodyPost_ret (v := .tuple #[.agg #[.slice none 0 0, .int .i64 0, .int .i64 0, .int .i64 0, .slice none 0 0], .bool false]) (by simp [results, Try.results19, go_sem, hr0, hr1, hr2, hr3, hr4]) rfl ?_
    exact ⟨none, 0, 0, none, 0, 0, [], [], rfl, ⟨OSl.nil_ _, by unfold I64; decide, by unfold I64; decide, by unfold I64; decide, OSl.nil_ _⟩, by simp, by simp, hww.trans inferInstance⟩
  have hb := inB_t.1 hi
  obtain ⟨m, rfl⟩ := Int.eq_ofNat_of_zero_le (show 0 ≤ turns by omega)
  have ok := Lib.hid (rosterFacts hv)
  have hn6 : 1 ≤ sn1 ∧ sn1 ≤ 6 := by rw [hlen.out]; exact ok.out.plan
  have hn61 := hn6.1
  have hn62 := hn6.2
  have hm1 : m ≤ 100 := by omega
  have hS := h.l_Shifts
  have hs8 : 1 ≤ sn0 ∧ sn0 ≤ 8 := by rw [hS.len]; exact ok.out.shifts
  have HI := Lib.hid (And.intro h.i_Rules_MinRest (And.intro h.i_Rules_MaxRow h.i_Rules_MaxWeek))
  rw [show turnRes r m = ({ r with Plan := turned r m }, true) from by simp [turnRes, hv, hi]]
  clear hn6 hb
  obtain ⟨b, o, _, _, _, _, rfl, _⟩ := Sl.row_ hP (k := 0) (by omega)
  obtain ⟨b2, o2, _, rfl, _⟩ := Spans.at_ hS (k := 0) (by omega)
  have hs81 := hs8.1
  have hs82 := hs8.2
  have HSL := Lib.hid hS.len
  clear hs8 hS
  obtain ⟨wx, hwx⟩ : ∃ wx : World, wx = ((w.alloc (.cells #[.slice (some ⟨b2, o2, none⟩) sn0 sc0, .int .i64 r.Rules.MinRest, .int .i64 r.Rules.MaxRow, .int .i64 r.Rules.MaxWeek, .slice (some ⟨b, o, none⟩) sn1 sc1] 32)).alloc (.cells #[.slice none 0 0, .int .i64 0, .int .i64 0, .int .i64 0, .slice none 0 0] 32)) := ⟨_, rfl⟩
  have HBX : Blk wx (w.heap.size + 1) 32 #[.slice none 0 0, .int .i64 0, .int .i64 0, .int .i64 0, .slice none 0 0] := by rw [hwx]; exact heap_new (by simp)
  have HB0 : ∀ W [Later (w.alloc (.cells #[.slice (some ⟨b2, o2, none⟩) sn0 sc0, .int .i64 r.Rules.MinRest, .int .i64 r.Rules.MaxRow, .int .i64 r.Rules.MaxWeek, .slice (some ⟨b, o, none⟩) sn1 sc1] 32)) W] (j : Nat), W.cell? ⟨w.heap.size, j, none⟩ = #[.slice (some ⟨b2, o2, none⟩) sn0 sc0, .int .i64 r.Rules.MinRest, .int .i64 r.Rules.MaxRow, .int .i64 r.Rules.MaxWeek, .slice (some ⟨b, o, none⟩) sn1 sc1][j]? := Later.boxes (t := 32) (fr := (0, 0)) (heap_new (by simp; try omega)); obtain ⟨wb, hwb⟩ : ∃ wb : World, wb = (w.alloc (.cells #[.slice (some ⟨b2, o2, none⟩) sn0 sc0, .int .i64 r.Rules.MinRest, .int .i64 r.Rules.MaxRow, .int .i64 r.Rules.MaxWeek, .slice (some ⟨b, o, none⟩) sn1 sc1] 32)) := ⟨_, rfl⟩; haveI hbW : Later wb (w.alloc (.cells #[.slice (some ⟨b2, o2, none⟩) sn0 sc0, .int .i64 r.Rules.MinRest, .int .i64 r.Rules.MaxRow, .int .i64 r.Rules.MaxWeek, .slice (some ⟨b, o, none⟩) sn1 sc1] 32)) := (by rw [hwb]; exact Later.rfl_); haveI hww : Later w wb := (by rw [hwb]; infer_instance); rw [← hwb] at HB0; have hbE := Lib.hid (congrArg (fun x : World => x.heap.size) hwb); clear hwb
  replace h := h.later hww
  have H := Lib.hid h
  haveI hxW : Later wx ((w.alloc (.cells #[.slice (some ⟨b2, o2, none⟩) sn0 sc0, .int .i64 r.Rules.MinRest, .int .i64 r.Rules.MaxRow, .int .i64 r.Rules.MaxWeek, .slice (some ⟨b, o, none⟩) sn1 sc1] 32)).alloc (.cells #[.slice none 0 0, .int .i64 0, .int .i64 0, .int .i64 0, .slice none 0 0] 32)) := by rw [hwx]; exact Later.rfl_
  haveI hbx : Later wb wx := by rw [hwx]; infer_instance
  have hzb : wb.heap.size ≤ w.heap.size + 1 := by have := hbE.out; simp at this; omega
  haveI hN : New wb (w.heap.size + 1) := ⟨hzb⟩
  clear hwx h hP
  go_enter Try.func19, Try.ntmps19
  go_wp2_with first
    | (go_at_call 92; refine (spec_l14Good H.out inferInstance).mono ?_; rintro e w1 ⟨rfl, L1⟩; have X1 := Later.trans (w := wb) inferInstance L1; have Z1 := Later.trans (w := wx) inferInstance L1; have hB := HBX.later Z1; have hcr := fun i => hB.cell i; have hfr := fun i => hB.frozen i)
    | (go_at_call 93; refine (spec_l1In _ _ _ _).mono ?_; rintro e w' ⟨rfl, rfl⟩)
  clear hB hcr hfr
  have hS := Lib.hid (H.out.l_Shifts)
  refine wp_region_held_drew (S := (fun w' => Later wb w')) (by kernel_rfl) (by exact inferInstance) (fun hHeld => ?_)
  refine wpAnyH_take (i := 1) (v := ?_) (by simp only [List.getElem?_toArray, List.getElem?_cons_succ, List.getElem?_cons_zero] <;> rfl) (by kernel_rfl) (by kernel_rfl) (by kernel_rfl) (by exact fun _ _ _ h => h) (Or.inl ⟨by kernel_rfl, ?_⟩) (by assumption) ?_
  rotate_left
  · intro w' hSw; (try dsimp only at hSw); go_simp; try with_reducible rfl
  try simp only [Act.put, List.setIfInBounds_toArray, List.set_cons_zero, List.set_cons_succ]
  refine wpAnyH_take (i := 2) (v := ?_) (by simp only [List.getElem?_toArray, List.getElem?_cons_succ, List.getElem?_cons_zero] <;> rfl) (by kernel_rfl) (by kernel_rfl) (by kernel_rfl) (by exact fun _ _ _ h => h) (Or.inl ⟨by kernel_rfl, ?_⟩) (by assumption) ?_
  rotate_left
  · intro w' hSw; (try dsimp only at hSw); go_simp; try with_reducible rfl
  try simp only [Act.put, List.setIfInBounds_toArray, List.set_cons_zero, List.set_cons_succ]
  refine wpAnyH_take (i := 4) (v := ?_) (by simp only [List.getElem?_toArray, List.getElem?_cons_succ, List.getElem?_cons_zero] <;> rfl) (by kernel_rfl) (by kernel_rfl) (by kernel_rfl) (by exact fun _ _ _ h => h) (Or.inl ⟨by kernel_rfl, ?_⟩) (by assumption) ?_
  rotate_left
  · intro w' hSw; (try dsimp only at hSw); go_simp; try with_reducible rfl
  try simp only [Act.put, List.setIfInBounds_toArray, List.set_cons_zero, List.set_cons_succ]
  refine wpAnyH_take (i := 5) (v := ?_) (by simp only [List.getElem?_toArray, List.getElem?_cons_succ, List.getElem?_cons_zero] <;> rfl) (by kernel_rfl) (by kernel_rfl) (by kernel_rfl) (by exact fun _ _ _ h => h) (Or.inl ⟨by kernel_rfl, ?_⟩) (by assumption) ?_
  rotate_left
  · intro w' hSw; (try dsimp only at hSw); go_simp; try with_reducible rfl
  try simp only [Act.put, List.setIfInBounds_toArray, List.set_cons_zero, List.set_cons_succ]
  refine wpAnyH_ready (rs := [0, 7]) (by kernel_rfl) (by simp) (AllReadyH.cons rfl (fun K hK => ?rx1_2_4_5_0) (AllReadyH.cons rfl (fun K hK => ?rx1_2_4_5_7) AllReadyH.nil))
  case' rx1_2_4_5_0 =>
    go_simp
    (first | (obtain ⟨wl, hwl⟩ : ∃ W : World, W = (w1.alloc (.cells #[] 224)).drew := ⟨_, rfl⟩; rw [← hwl]; have hbl : Blk wl w1.heap.size 224 #[] := (by rw [hwl]; exact Blk.new _ _ _); haveI hll : Later w1 wl := (by rw [hwl]; infer_instance); haveI hyl := Later.trans (w := wb) inferInstance hll; haveI hxl := Later.trans (w := wx) inferInstance hll; have hGl := Later.size (w := wx) (W := w1) inferInstance; obtain ⟨gl, hgl⟩ : ∃ g : Nat, g = w1.heap.size := ⟨_, rfl⟩; rw [← hgl] at hbl hGl; rw [← hgl]; clear hwl hgl) | (obtain ⟨wl, hwl⟩ : ∃ W : World, W = (wa.alloc (.cells #[] 224)) := ⟨_, rfl⟩; rw [← hwl]; have hbl : Blk wl wa.heap.size 224 #[] := (by rw [hwl]; exact Blk.new _ _ _); haveI hll : Later wa wl := (by rw [hwl]; infer_instance); haveI hyl := Later.trans (w := wb) inferInstance hll; haveI hxl := Later.trans (w := wx) inferInstance hll; have hGl := Later.size (w := wx) (W := wa) inferInstance; have hgn := HGX.lt; replace HGX := HGX.later hll; obtain ⟨gl, hgl⟩ : ∃ g : Nat, g = wa.heap.size := ⟨_, rfl⟩; rw [← hgl] at hbl hGl hgn; rw [← hgl]; have hgne : ¬ gx = gl := (by omega); clear hwl hgl))
    refine hK.out _ _ (by exact inferInstance) (fun hHeld => ?_)
    try simp only [Act.put, List.setIfInBounds_toArray, List.set_cons_zero, List.set_cons_succ]
    refine wpAnyH_ready (rs := [3, 7]) (by kernel_rfl) (by simp) (AllReadyH.cons rfl (fun K hK => ?rx0_1_2_4_5_3) (AllReadyH.cons rfl (fun K hK => ?rx0_1_2_4_5_7) AllReadyH.nil))
    case' rx0_1_2_4_5_3 =>
      refine wp_app_F _ _ 29 rfl Try.underlying29 info_Span rfl (by decide) (by decide) (r := rSpan) (w0 := wx) (base := wx.heap.size) (v := .slice (some ⟨gl, 0, none⟩) 0 0) (n := 0) (xs := []) rfl (own_litT hbl hGl) inferInstance (Nat.le_refl _) (Later.size inferInstance) rfl (hS.out.later inferInstance) (by omega) ?_; intro v1 w6 hown1 hX6 hG6; haveI hX6i := hX6; haveI hY6 := Later.trans (w := wb) inferInstance hX6; obtain ⟨A2, c2, f2, rfl, ho2, hnd2, hlo2, hty⟩ := own_flat_fp (r := rSpan) (n := sn0) (own_eqF hown1 (by omega) (by rw [List.nil_append])) HSL.out hS.out.all_enc; have HSH := Lib.hid ho2; have HLO := Lib.hid hlo2; have HND := Lib.hid hnd2; (try (replace HGX := blk_grown HGX hG6 (fun j hj => by simp [Value.ownBlock] at hj; omega); have hgf : gx ∉ f2 := (fun hm => by obtain ⟨cs, hcs⟩ := hty _ hm; have h9 := HGX.symm.trans hcs; simp at h9); have hcx := (fun i => HGX.cell i); have hfx := (fun i => HGX.frozen i))); clear ho2 hnd2 hlo2 hty hown1 hG6
      refine hK.out _ _ (by exact inferInstance) (fun hHeld => ?_)
      try simp only [Act.put, List.setIfInBounds_toArray, List.set_cons_zero, List.set_cons_succ]
      refine wpAnyH_take (i := 6) (v := ?_) (by simp only [List.getElem?_toArray, List.getElem?_cons_succ, List.getElem?_cons_zero] <;> rfl) (by kernel_rfl) (by kernel_rfl) (by kernel_rfl) (by exact fun _ _ _ h => h) (Or.inl ⟨by kernel_rfl, ?_⟩) (by assumption) ?_
      rotate_left
      · intro w' hSw; (try dsimp only at hSw); go_simp; try with_reducible rfl
      try simp only [Act.put, List.setIfInBounds_toArray, List.set_cons_zero, List.set_cons_succ]
      refine wpAnyH_ready (rs := [7]) (by kernel_rfl) (by simp) (AllReadyH.cons rfl (fun K hK => ?_) AllReadyH.nil)
      go_simp
      (first | (obtain ⟨wa, hwa⟩ : ∃ W : World, W = (w6.alloc (.cells #[.slice none 0 0, .int .i64 0, .int .i64 0, .int .i64 0, .slice none 0 0] 32)) := ⟨_, rfl⟩; rw [← hwa]; have HGX : Blk wa w6.heap.size 32 #[.slice none 0 0, .int .i64 0, .int .i64 0, .int .i64 0, .slice none 0 0] := (by rw [hwa]; exact Blk.new _ _ _); haveI hla : Later w6 wa := (by rw [hwa]; infer_instance); haveI hya := Later.trans (w := wb) inferInstance hla; haveI hxa := Later.trans (w := wx) inferInstance hla; have hGx := Later.size (w := wx) (W := w6) inferInstance; have hgf : w6.heap.size ∉ f2 := (fun hm => by have := HSH.out.lt _ hm; omega); replace HSH := Lib.hid (HSH.out.later hla); obtain ⟨gx, hgx⟩ : ∃ g : Nat, g = w6.heap.size := ⟨_, rfl⟩; rw [← hgx] at HGX hGx hgf; rw [← hgx]; haveI hNx : New wx gx := ⟨hGx⟩; have hcx := (fun i => HGX.cell i); have hfx := (fun i => HGX.frozen i); clear hwa hgx) | (obtain ⟨wa, hwa⟩ : ∃ W : World, W = (wl.alloc (.cells #[.slice none 0 0, .int .i64 0, .int .i64 0, .int .i64 0, .slice none 0 0] 32)) := ⟨_, rfl⟩; rw [← hwa]; have HGX : Blk wa wl.heap.size 32 #[.slice none 0 0, .int .i64 0, .int .i64 0, .int .i64 0, .slice none 0 0] := (by rw [hwa]; exact Blk.new _ _ _); haveI hla : Later wl wa := (by rw [hwa]; infer_instance); haveI hya := Later.trans (w := wb) inferInstance hla; haveI hxa := Later.trans (w := wx) inferInstance hla; have hGx := Later.size (w := wx) (W := wl) inferInstance; have hgn := hbl.lt; replace hbl := hbl.later hla; obtain ⟨gx, hgx⟩ : ∃ g : Nat, g = wl.heap.size := ⟨_, rfl⟩; rw [← hgx] at HGX hGx hgn; rw [← hgx]; have hgne : ¬ gx = gl := (by omega); haveI hNx : New wx gx := ⟨hGx⟩; have hcx := (fun i => HGX.cell i); have hfx := (fun i => HGX.frozen i); clear hwa hgx) | (obtain ⟨wa, hwa⟩ : ∃ W : World, W = (w1.alloc (.cells #[.slice none 0 0, .int .i64 0, .int .i64 0, .int .i64 0, .slice none 0 0] 32)).drew := ⟨_, rfl⟩; rw [← hwa]; have HGX : Blk wa w1.heap.size 32 #[.slice none 0 0, .int .i64 0, .int .i64 0, .int .i64 0, .slice none 0 0] := (by rw [hwa]; exact Blk.new _ _ _); haveI hla : Later w1 wa := (by rw [hwa]; infer_instance); haveI hya := Later.trans (w := wb) inferInstance hla; haveI hxa := Later.trans (w := wx) inferInstance hla; have hGx := Later.size (w := wx) (W := w1) inferInstance; obtain ⟨gx, hgx⟩ : ∃ g : Nat, g = w1.heap.size := ⟨_, rfl⟩; rw [← hgx] at HGX hGx; rw [← hgx]; haveI hNx : New wx gx := ⟨hGx⟩; have hcx := (fun i => HGX.cell i); have hfx := (fun i => HGX.frozen i); clear hwa hgx))
      refine hK.out _ _ (by exact inferInstance) (fun hHeld => ?_)
      try simp only [Act.put, List.setIfInBounds_toArray, List.set_cons_zero, List.set_cons_succ]
      refine wpAnyH_ready (rs := [8]) (by kernel_rfl) (by simp) (AllReadyH.cons rfl (fun K hK => ?_) AllReadyH.nil)
      go_simp
      (first | (obtain ⟨wf, hwf⟩ : ∃ W : World, W = (((((w6.setCell ⟨gx, 0, none⟩ (.slice A2 sn0 c2)).setCell ⟨gx, 1, none⟩ (.int .i64 r.Rules.MinRest)).setCell ⟨gx, 2, none⟩ (.int .i64 r.Rules.MaxRow)).setCell ⟨gx, 3, none⟩ (.int .i64 r.Rules.MaxWeek)).setCell ⟨gx, 4, none⟩ (.slice none 0 0)) := ⟨_, rfl⟩; rw [← hwf]; have HG : Blk wf gx 32 #[.slice A2 sn0 c2, .int .i64 r.Rules.MinRest, .int .i64 r.Rules.MaxRow, .int .i64 r.Rules.MaxWeek, .slice none 0 0] := (by rw [hwf]; exact HGX.put5); have HO : Hid (OSl 2 oSpan wf A2 sn0 c2 r.Shifts f2) := Lib.hid (by rw [hwf]; exact HSH.out.by5 hgf); haveI hxf : Later wx wf := (by rw [hwf]; infer_instance); haveI hyf := Later.trans (w := wb) hbx hxf; clear hwf hcx hfx HGX HSH) | (obtain ⟨wf, hwf⟩ : ∃ W : World, W = (((((wa.setCell ⟨gx, 0, none⟩ (.slice A2 sn0 c2)).setCell ⟨gx, 1, none⟩ (.int .i64 r.Rules.MinRest)).setCell ⟨gx, 2, none⟩ (.int .i64 r.Rules.MaxRow)).setCell ⟨gx, 3, none⟩ (.int .i64 r.Rules.MaxWeek)).setCell ⟨gx, 4, none⟩ (.slice none 0 0)) := ⟨_, rfl⟩; rw [← hwf]; have HG : Blk wf gx 32 #[.slice A2 sn0 c2, .int .i64 r.Rules.MinRest, .int .i64 r.Rules.MaxRow, .int .i64 r.Rules.MaxWeek, .slice none 0 0] := (by rw [hwf]; exact HGX.put5); have HO : Hid (OSl 2 oSpan wf A2 sn0 c2 r.Shifts f2) := Lib.hid (by rw [hwf]; exact HSH.out.by5 hgf); haveI hxf : Later wx wf := (by rw [hwf]; infer_instance); haveI hyf := Later.trans (w := wb) hbx hxf; clear hwf hcx hfx HGX HSH))
      refine hK.out _ _ (by exact inferInstance) (fun hHeld => ?_)
      try simp only [Act.put, List.setIfInBounds_toArray, List.set_cons_zero, List.set_cons_succ]
      refine wpAnyH_done (by kernel_rfl) ?_ _
    case' rx0_1_2_4_5_7 =>
      go_simp
      (first | (obtain ⟨wa, hwa⟩ : ∃ W : World, W = (w6.alloc (.cells #[.slice none 0 0, .int .i64 0, .int .i64 0, .int .i64 0, .slice none 0 0] 32)) := ⟨_, rfl⟩; rw [← hwa]; have HGX : Blk wa w6.heap.size 32 #[.slice none 0 0, .int .i64 0, .int .i64 0, .int .i64 0, .slice none 0 0] := (by rw [hwa]; exact Blk.new _ _ _); haveI hla : Later w6 wa := (by rw [hwa]; infer_instance); haveI hya := Later.trans (w := wb) inferInstance hla; haveI hxa := Later.trans (w := wx) inferInstance hla; have hGx := Later.size (w := wx) (W := w6) inferInstance; have hgf : w6.heap.size ∉ f2 := (fun hm => by have := HSH.out.lt _ hm; omega); replace HSH := Lib.hid (HSH.out.later hla); obtain ⟨gx, hgx⟩ : ∃ g : Nat, g = w6.heap.size := ⟨_, rfl⟩; rw [← hgx] at HGX hGx hgf; rw [← hgx]; haveI hNx : New wx gx := ⟨hGx⟩; have hcx := (fun i => HGX.cell i); have hfx := (fun i => HGX.frozen i); clear hwa hgx) | (obtain ⟨wa, hwa⟩ : ∃ W : World, W = (wl.alloc (.cells #[.slice none 0 0, .int .i64 0, .int .i64 0, .int .i64 0, .slice none 0 0] 32)) := ⟨_, rfl⟩; rw [← hwa]; have HGX : Blk wa wl.heap.size 32 #[.slice none 0 0, .int .i64 0, .int .i64 0, .int .i64 0, .slice none 0 0] := (by rw [hwa]; exact Blk.new _ _ _); haveI hla : Later wl wa := (by rw [hwa]; infer_instance); haveI hya := Later.trans (w := wb) inferInstance hla; haveI hxa := Later.trans (w := wx) inferInstance hla; have hGx := Later.size (w := wx) (W := wl) inferInstance; have hgn := hbl.lt; replace hbl := hbl.later hla; obtain ⟨gx, hgx⟩ : ∃ g : Nat, g = wl.heap.size := ⟨_, rfl⟩; rw [← hgx] at HGX hGx hgn; rw [← hgx]; have hgne : ¬ gx = gl := (by omega); haveI hNx : New wx gx := ⟨hGx⟩; have hcx := (fun i => HGX.cell i); have hfx := (fun i => HGX.frozen i); clear hwa hgx) | (obtain ⟨wa, hwa⟩ : ∃ W : World, W = (w1.alloc (.cells #[.slice none 0 0, .int .i64 0, .int .i64 0, .int .i64 0, .slice none 0 0] 32)).drew := ⟨_, rfl⟩; rw [← hwa]; have HGX : Blk wa w1.heap.size 32 #[.slice none 0 0, .int .i64 0, .int .i64 0, .int .i64 0, .slice none 0 0] := (by rw [hwa]; exact Blk.new _ _ _); haveI hla : Later w1 wa := (by rw [hwa]; infer_instance); haveI hya := Later.trans (w := wb) inferInstance hla; haveI hxa := Later.trans (w := wx) inferInstance hla; have hGx := Later.size (w := wx) (W := w1) inferInstance; obtain ⟨gx, hgx⟩ : ∃ g : Nat, g = w1.heap.size := ⟨_, rfl⟩; rw [← hgx] at HGX hGx; rw [← hgx]; haveI hNx : New wx gx := ⟨hGx⟩; have hcx := (fun i => HGX.cell i); have hfx := (fun i => HGX.frozen i); clear hwa hgx))
      refine hK.out _ _ (by exact inferInstance) (fun hHeld => ?_)
      try simp only [Act.put, List.setIfInBounds_toArray, List.set_cons_zero, List.set_cons_succ]
      refine wpAnyH_ready (rs := [3]) (by kernel_rfl) (by simp) (AllReadyH.cons rfl (fun K hK => ?_) AllReadyH.nil)
      refine wp_app_F _ _ 29 rfl Try.underlying29 info_Span rfl (by decide) (by decide) (r := rSpan) (w0 := wx) (base := wx.heap.size) (v := .slice (some ⟨gl, 0, none⟩) 0 0) (n := 0) (xs := []) rfl (own_litT hbl hGl) inferInstance (Nat.le_refl _) (Later.size inferInstance) rfl (hS.out.later inferInstance) (by omega) ?_; intro v1 w6 hown1 hX6 hG6; haveI hX6i := hX6; haveI hY6 := Later.trans (w := wb) inferInstance hX6; obtain ⟨A2, c2, f2, rfl, ho2, hnd2, hlo2, hty⟩ := own_flat_fp (r := rSpan) (n := sn0) (own_eqF hown1 (by omega) (by rw [List.nil_append])) HSL.out hS.out.all_enc; have HSH := Lib.hid ho2; have HLO := Lib.hid hlo2; have HND := Lib.hid hnd2; (try (replace HGX := blk_grown HGX hG6 (fun j hj => by simp [Value.ownBlock] at hj; omega); have hgf : gx ∉ f2 := (fun hm => by obtain ⟨cs, hcs⟩ := hty _ hm; have h9 := HGX.symm.trans hcs; simp at h9); have hcx := (fun i => HGX.cell i); have hfx := (fun i => HGX.frozen i))); clear ho2 hnd2 hlo2 hty hown1 hG6
      refine hK.out _ _ (by exact inferInstance) (fun hHeld => ?_)
      try simp only [Act.put, List.setIfInBounds_toArray, List.set_cons_zero, List.set_cons_succ]
      refine wpAnyH_take (i := 6) (v := ?_) (by simp only [List.getElem?_toArray, List.getElem?_cons_succ, List.getElem?_cons_zero] <;> rfl) (by kernel_rfl) (by kernel_rfl) (by kernel_rfl) (by exact fun _ _ _ h => h) (Or.inl ⟨by kernel_rfl, ?_⟩) (by assumption) ?_
      rotate_left
      · intro w' hSw; (try dsimp only at hSw); go_simp; try with_reducible rfl
      try simp only [Act.put, List.setIfInBounds_toArray, List.set_cons_zero, List.set_cons_succ]
      refine wpAnyH_ready (rs := [8]) (by kernel_rfl) (by simp) (AllReadyH.cons rfl (fun K hK => ?_) AllReadyH.nil)
      go_simp
      (first | (obtain ⟨wf, hwf⟩ : ∃ W : World, W = (((((w6.setCell ⟨gx, 0, none⟩ (.slice A2 sn0 c2)).setCell ⟨gx, 1, none⟩ (.int .i64 r.Rules.MinRest)).setCell ⟨gx, 2, none⟩ (.int .i64 r.Rules.MaxRow)).setCell ⟨gx, 3, none⟩ (.int .i64 r.Rules.MaxWeek)).setCell ⟨gx, 4, none⟩ (.slice none 0 0)) := ⟨_, rfl⟩; rw [← hwf]; have HG : Blk wf gx 32 #[.slice A2 sn0 c2, .int .i64 r.Rules.MinRest, .int .i64 r.Rules.MaxRow, .int .i64 r.Rules.MaxWeek, .slice none 0 0] := (by rw [hwf]; exact HGX.put5); have HO : Hid (OSl 2 oSpan wf A2 sn0 c2 r.Shifts f2) := Lib.hid (by rw [hwf]; exact HSH.out.by5 hgf); haveI hxf : Later wx wf := (by rw [hwf]; infer_instance); haveI hyf := Later.trans (w := wb) hbx hxf; clear hwf hcx hfx HGX HSH) | (obtain ⟨wf, hwf⟩ : ∃ W : World, W = (((((wa.setCell ⟨gx, 0, none⟩ (.slice A2 sn0 c2)).setCell ⟨gx, 1, none⟩ (.int .i64 r.Rules.MinRest)).setCell ⟨gx, 2, none⟩ (.int .i64 r.Rules.MaxRow)).setCell ⟨gx, 3, none⟩ (.int .i64 r.Rules.MaxWeek)).setCell ⟨gx, 4, none⟩ (.slice none 0 0)) := ⟨_, rfl⟩; rw [← hwf]; have HG : Blk wf gx 32 #[.slice A2 sn0 c2, .int .i64 r.Rules.MinRest, .int .i64 r.Rules.MaxRow, .int .i64 r.Rules.MaxWeek, .slice none 0 0] := (by rw [hwf]; exact HGX.put5); have HO : Hid (OSl 2 oSpan wf A2 sn0 c2 r.Shifts f2) := Lib.hid (by rw [hwf]; exact HSH.out.by5 hgf); haveI hxf : Later wx wf := (by rw [hwf]; infer_instance); haveI hyf := Later.trans (w := wb) hbx hxf; clear hwf hcx hfx HGX HSH))
      refine hK.out _ _ (by exact inferInstance) (fun hHeld => ?_)
      try simp only [Act.put, List.setIfInBounds_toArray, List.set_cons_zero, List.set_cons_succ]
      refine wpAnyH_done (by kernel_rfl) ?_ _
  case' rx1_2_4_5_7 =>
    go_simp
    (first | (obtain ⟨wa, hwa⟩ : ∃ W : World, W = (w6.alloc (.cells #[.slice none 0 0, .int .i64 0, .int .i64 0, .int .i64 0, .slice none 0 0] 32)) := ⟨_, rfl⟩; rw [← hwa]; have HGX : Blk wa w6.heap.size 32 #[.slice none 0 0, .int .i64 0, .int .i64 0, .int .i64 0, .slice none 0 0] := (by rw [hwa]; exact Blk.new _ _ _); haveI hla : Later w6 wa := (by rw [hwa]; infer_instance); haveI hya := Later.trans (w := wb) inferInstance hla; haveI hxa := Later.trans (w := wx) inferInstance hla; have hGx := Later.size (w := wx) (W := w6) inferInstance; have hgf : w6.heap.size ∉ f2 := (fun hm => by have := HSH.out.lt _ hm; omega); replace HSH := Lib.hid (HSH.out.later hla); obtain ⟨gx, hgx⟩ : ∃ g : Nat, g = w6.heap.size := ⟨_, rfl⟩; rw [← hgx] at HGX hGx hgf; rw [← hgx]; haveI hNx : New wx gx := ⟨hGx⟩; have hcx := (fun i => HGX.cell i); have hfx := (fun i => HGX.frozen i); clear hwa hgx) | (obtain ⟨wa, hwa⟩ : ∃ W : World, W = (wl.alloc (.cells #[.slice none 0 0, .int .i64 0, .int .i64 0, .int .i64 0, .slice none 0 0] 32)) := ⟨_, rfl⟩; rw [← hwa]; have HGX : Blk wa wl.heap.size 32 #[.slice none 0 0, .int .i64 0, .int .i64 0, .int .i64 0, .slice none 0 0] := (by rw [hwa]; exact Blk.new _ _ _); haveI hla : Later wl wa := (by rw [hwa]; infer_instance); haveI hya := Later.trans (w := wb) inferInstance hla; haveI hxa := Later.trans (w := wx) inferInstance hla; have hGx := Later.size (w := wx) (W := wl) inferInstance; have hgn := hbl.lt; replace hbl := hbl.later hla; obtain ⟨gx, hgx⟩ : ∃ g : Nat, g = wl.heap.size := ⟨_, rfl⟩; rw [← hgx] at HGX hGx hgn; rw [← hgx]; have hgne : ¬ gx = gl := (by omega); haveI hNx : New wx gx := ⟨hGx⟩; have hcx := (fun i => HGX.cell i); have hfx := (fun i => HGX.frozen i); clear hwa hgx) | (obtain ⟨wa, hwa⟩ : ∃ W : World, W = (w1.alloc (.cells #[.slice none 0 0, .int .i64 0, .int .i64 0, .int .i64 0, .slice none 0 0] 32)).drew := ⟨_, rfl⟩; rw [← hwa]; have HGX : Blk wa w1.heap.size 32 #[.slice none 0 0, .int .i64 0, .int .i64 0, .int .i64 0, .slice none 0 0] := (by rw [hwa]; exact Blk.new _ _ _); haveI hla : Later w1 wa := (by rw [hwa]; infer_instance); haveI hya := Later.trans (w := wb) inferInstance hla; haveI hxa := Later.trans (w := wx) inferInstance hla; have hGx := Later.size (w := wx) (W := w1) inferInstance; obtain ⟨gx, hgx⟩ : ∃ g : Nat, g = w1.heap.size := ⟨_, rfl⟩; rw [← hgx] at HGX hGx; rw [← hgx]; haveI hNx : New wx gx := ⟨hGx⟩; have hcx := (fun i => HGX.cell i); have hfx := (fun i => HGX.frozen i); clear hwa hgx))
    refine hK.out _ _ (by exact inferInstance) (fun hHeld => ?_)
    try simp only [Act.put, List.setIfInBounds_toArray, List.set_cons_zero, List.set_cons_succ]
    refine wpAnyH_ready (rs := [0]) (by kernel_rfl) (by simp) (AllReadyH.cons rfl (fun K hK => ?_) AllReadyH.nil)
    go_simp
    (first | (obtain ⟨wl, hwl⟩ : ∃ W : World, W = (w1.alloc (.cells #[] 224)).drew := ⟨_, rfl⟩; rw [← hwl]; have hbl : Blk wl w1.heap.size 224 #[] := (by rw [hwl]; exact Blk.new _ _ _); haveI hll : Later w1 wl := (by rw [hwl]; infer_instance); haveI hyl := Later.trans (w := wb) inferInstance hll; haveI hxl := Later.trans (w := wx) inferInstance hll; have hGl := Later.size (w := wx) (W := w1) inferInstance; obtain ⟨gl, hgl⟩ : ∃ g : Nat, g = w1.heap.size := ⟨_, rfl⟩; rw [← hgl] at hbl hGl; rw [← hgl]; clear hwl hgl) | (obtain ⟨wl, hwl⟩ : ∃ W : World, W = (wa.alloc (.cells #[] 224)) := ⟨_, rfl⟩; rw [← hwl]; have hbl : Blk wl wa.heap.size 224 #[] := (by rw [hwl]; exact Blk.new _ _ _); haveI hll : Later wa wl := (by rw [hwl]; infer_instance); haveI hyl := Later.trans (w := wb) inferInstance hll; haveI hxl := Later.trans (w := wx) inferInstance hll; have hGl := Later.size (w := wx) (W := wa) inferInstance; have hgn := HGX.lt; replace HGX := HGX.later hll; obtain ⟨gl, hgl⟩ : ∃ g : Nat, g = wa.heap.size := ⟨_, rfl⟩; rw [← hgl] at hbl hGl hgn; rw [← hgl]; have hgne : ¬ gx = gl := (by omega); clear hwl hgl))
    refine hK.out _ _ (by exact inferInstance) (fun hHeld => ?_)
    try simp only [Act.put, List.setIfInBounds_toArray, List.set_cons_zero, List.set_cons_succ]
    refine wpAnyH_ready (rs := [3]) (by kernel_rfl) (by simp) (AllReadyH.cons rfl (fun K hK => ?_) AllReadyH.nil)
    refine wp_app_F _ _ 29 rfl Try.underlying29 info_Span rfl (by decide) (by decide) (r := rSpan) (w0 := wx) (base := wx.heap.size) (v := .slice (some ⟨gl, 0, none⟩) 0 0) (n := 0) (xs := []) rfl (own_litT hbl hGl) inferInstance (Nat.le_refl _) (Later.size inferInstance) rfl (hS.out.later inferInstance) (by omega) ?_; intro v1 w6 hown1 hX6 hG6; haveI hX6i := hX6; haveI hY6 := Later.trans (w := wb) inferInstance hX6; obtain ⟨A2, c2, f2, rfl, ho2, hnd2, hlo2, hty⟩ := own_flat_fp (r := rSpan) (n := sn0) (own_eqF hown1 (by omega) (by rw [List.nil_append])) HSL.out hS.out.all_enc; have HSH := Lib.hid ho2; have HLO := Lib.hid hlo2; have HND := Lib.hid hnd2; (try (replace HGX := blk_grown HGX hG6 (fun j hj => by simp [Value.ownBlock] at hj; omega); have hgf : gx ∉ f2 := (fun hm => by obtain ⟨cs, hcs⟩ := hty _ hm; have h9 := HGX.symm.trans hcs; simp at h9); have hcx := (fun i => HGX.cell i); have hfx := (fun i => HGX.frozen i))); clear ho2 hnd2 hlo2 hty hown1 hG6
    refine hK.out _ _ (by exact inferInstance) (fun hHeld => ?_)
    try simp only [Act.put, List.setIfInBounds_toArray, List.set_cons_zero, List.set_cons_succ]
    refine wpAnyH_take (i := 6) (v := ?_) (by simp only [List.getElem?_toArray, List.getElem?_cons_succ, List.getElem?_cons_zero] <;> rfl) (by kernel_rfl) (by kernel_rfl) (by kernel_rfl) (by exact fun _ _ _ h => h) (Or.inl ⟨by kernel_rfl, ?_⟩) (by assumption) ?_
    rotate_left
    · intro w' hSw; (try dsimp only at hSw); go_simp; try with_reducible rfl
    try simp only [Act.put, List.setIfInBounds_toArray, List.set_cons_zero, List.set_cons_succ]
    refine wpAnyH_ready (rs := [8]) (by kernel_rfl) (by simp) (AllReadyH.cons rfl (fun K hK => ?_) AllReadyH.nil)
    go_simp
    (first | (obtain ⟨wf, hwf⟩ : ∃ W : World, W = (((((w6.setCell ⟨gx, 0, none⟩ (.slice A2 sn0 c2)).setCell ⟨gx, 1, none⟩ (.int .i64 r.Rules.MinRest)).setCell ⟨gx, 2, none⟩ (.int .i64 r.Rules.MaxRow)).setCell ⟨gx, 3, none⟩ (.int .i64 r.Rules.MaxWeek)).setCell ⟨gx, 4, none⟩ (.slice none 0 0)) := ⟨_, rfl⟩; rw [← hwf]; have HG : Blk wf gx 32 #[.slice A2 sn0 c2, .int .i64 r.Rules.MinRest, .int .i64 r.Rules.MaxRow, .int .i64 r.Rules.MaxWeek, .slice none 0 0] := (by rw [hwf]; exact HGX.put5); have HO : Hid (OSl 2 oSpan wf A2 sn0 c2 r.Shifts f2) := Lib.hid (by rw [hwf]; exact HSH.out.by5 hgf); haveI hxf : Later wx wf := (by rw [hwf]; infer_instance); haveI hyf := Later.trans (w := wb) hbx hxf; clear hwf hcx hfx HGX HSH) | (obtain ⟨wf, hwf⟩ : ∃ W : World, W = (((((wa.setCell ⟨gx, 0, none⟩ (.slice A2 sn0 c2)).setCell ⟨gx, 1, none⟩ (.int .i64 r.Rules.MinRest)).setCell ⟨gx, 2, none⟩ (.int .i64 r.Rules.MaxRow)).setCell ⟨gx, 3, none⟩ (.int .i64 r.Rules.MaxWeek)).setCell ⟨gx, 4, none⟩ (.slice none 0 0)) := ⟨_, rfl⟩; rw [← hwf]; have HG : Blk wf gx 32 #[.slice A2 sn0 c2, .int .i64 r.Rules.MinRest, .int .i64 r.Rules.MaxRow, .int .i64 r.Rules.MaxWeek, .slice none 0 0] := (by rw [hwf]; exact HGX.put5); have HO : Hid (OSl 2 oSpan wf A2 sn0 c2 r.Shifts f2) := Lib.hid (by rw [hwf]; exact HSH.out.by5 hgf); haveI hxf : Later wx wf := (by rw [hwf]; infer_instance); haveI hyf := Later.trans (w := wb) hbx hxf; clear hwf hcx hfx HGX HSH))
    refine hK.out _ _ (by exact inferInstance) (fun hHeld => ?_)
    try simp only [Act.put, List.setIfInBounds_toArray, List.set_cons_zero, List.set_cons_succ]
    refine wpAnyH_done (by kernel_rfl) ?_ _
  all_goals have HLT := Lib.hid (fun g hg => HO.out.lt g hg)
  all_goals have hNb : New wb gx := ⟨Nat.le_trans (Later.size (w := wb) (W := wx) inferInstance) hGx⟩
  all_goals have HGL : Hid (gx < wf.heap.size) := Lib.hid HG.lt
  · go_wp2_with fail
    go_loopw [7] (fun i wr => ∃ (k : Nat) (v : Value), k ≤ sn1 ∧ i = .int .i64 k ∧ Blk wr gx 32 #[.slice A2 sn0 c2, .int .i64 r.Rules.MinRest, .int .i64 r.Rules.MaxRow, .int .i64 r.Rules.MaxWeek, v] ∧ Hid (ORows wr wf.heap.size 111 v ((turned r m).take k)) ∧ Hid (OSl 2 oSpan wr A2 sn0 c2 r.Shifts f2) ∧ wf.heap.size ≤ wr.heap.size ∧ Later wb wr ∧ Later wx wr) (fun i _ => sn1 - (intOf i).toNat)
    case atStart => exact ⟨0, .slice none 0 0, by omega, rfl, HG, Lib.hid (by rw [List.take_zero]; exact ORows.nil_ _ _ _), HO, Nat.le_refl _, inferInstance, inferInstance⟩
    case round =>
      obtain ⟨k, v, hk, rfl, HG, HR, HO, hbs, hX, hZ⟩ := hrel
      by_cases hlt : k < sn1
      · obtain ⟨b', o', A1, n1, c1, x, hA, hx, hc, hrow⟩ := Sl.row_ (H.out.l_Plan) (k := (k + m) % sn1) (Nat.mod_lt _ (by omega))
        cases hA
        have hx14 : n1 ≤ 1073741824 := by
          have h1 := (ok.out.row _ x hx.out).1
          have h2 := ok.out.days
          have h3 := hrow.len
          unfold days at h2
          omega
        have HXR : Hid ((turned r m).take k ++ [x] = (turned r m).take (k + 1)) := take_one (by rw [turned_at (by rw [← hlen.out]; exact hlt), ← hlen.out, rowOf_eq hx.out])
        have hlen2 : Hid (((turned r m).take k).length ≤ 1073741824) := by show _ ≤ _; rw [List.length_take, turned_len, ← hlen.out]; omega
        have hne : ¬ sn1 = 0 := by omega
        have hrem : (IntKind.i64.wrap ((k : Int) + (m : Int))).tmod (sn1 : Int) = (((k + m) % sn1 : Nat) : Int) := by
          rw [show IntKind.i64.wrap ((k : Int) + (m : Int)) = (k : Int) + (m : Int) from by rw [IntKind.wrap_i64]; omega, Int.tmod_eq_emod_of_nonneg (by omega)]; simp
        have hql : (k + m) % sn1 < sn1 := Nat.mod_lt _ (by omega)
        clear hx
        generalize (k + m) % sn1 = q at hrem hql hc
        have hrow := Lib.hid hrow
        have hgxl : gx < wf.heap.size := Nat.lt_of_lt_of_le HGL.out (Nat.le_refl _)
        obtain ⟨wk, hwk⟩ : ∃ W : World, W = cutW wr wf.heap.size := ⟨_, rfl⟩
        have hks : Hid (wk.heap.size = wf.heap.size) := by show _ = _; rw [hwk]; exact cutW_size hbs
        haveI hkr : Later wk wr := by rw [hwk]; exact cutW_later hbs
        haveI hkx : Later wx wk := by rw [hwk]; exact cutW_of hZ (Later.size (w := wx) (W := wf) inferInstance) hbs
        haveI hkb : Later wb wk := Later.trans hbx hkx
        have hGk : Blk wk gx 32 #[.slice A2 sn0 c2, .int .i64 r.Rules.MinRest, .int .i64 r.Rules.MaxRow, .int .i64 r.Rules.MaxWeek, v] := by rw [hwk]; exact HG.cut hgxl
        have hOk : Hid (OSl 2 oSpan wk A2 sn0 c2 r.Shifts f2) := Lib.hid (by rw [hwk]; exact HO.out.cut HLT.out)
        clear hwk HG HO
        obtain ⟨h5a, h5b, h5c, h5d, h5e⟩ := hGk.five
        have hfx : ∀ (i : Nat) (W : World) [Later wk W], W.frozen? ⟨gx, i, none⟩ = false := fun i W hW => (hGk.later hW).frozen i
        go_wp2_with fail
        refine wp_region_held_drew (S := (fun w' => Later wb w')) (by kernel_rfl) (by exact inferInstance) (fun hHeld => ?_)
        refine wpAnyH_take (i := 0) (v := ?_) (by simp only [List.getElem?_toArray, List.getElem?_cons_zero] <;> rfl) (by kernel_rfl) (by kernel_rfl) (by kernel_rfl) (by exact fun _ _ _ h => h) (Or.inl ⟨by kernel_rfl, ?_⟩) (by assumption) ?_
        rotate_left
        · intro w' hSw; (try dsimp only at hSw); go_simp; try with_reducible rfl
        try simp only [Act.put, List.setIfInBounds_toArray, List.set_cons_zero, List.set_cons_succ]
        refine wpAnyH_take (i := 2) (v := ?_) (by simp only [List.getElem?_toArray, List.getElem?_cons_succ, List.getElem?_cons_zero] <;> rfl) (by kernel_rfl) (by kernel_rfl) (by kernel_rfl) (by exact fun _ _ _ h => h) (Or.inl ⟨by kernel_rfl, ?_⟩) (by assumption) ?_
        rotate_left
        · intro w' hSw; (try dsimp only at hSw); go_simp; try with_reducible rfl
        try simp only [Act.put, List.setIfInBounds_toArray, List.set_cons_zero, List.set_cons_succ]
        refine wpAnyH_take (i := 3) (v := ?_) (by simp only [List.getElem?_toArray, List.getElem?_cons_succ, List.getElem?_cons_zero] <;> rfl) (by kernel_rfl) (by kernel_rfl) (by kernel_rfl) (by exact fun _ _ _ h => h) (Or.inl ⟨by kernel_rfl, ?_⟩) (by assumption) ?_
        rotate_left
        · intro w' hSw; (try dsimp only at hSw); go_simp; try with_reducible rfl
        try simp only [Act.put, List.setIfInBounds_toArray, List.set_cons_zero, List.set_cons_succ]
        refine wpAnyH_take (i := 4) (v := ?_) (by simp only [List.getElem?_toArray, List.getElem?_cons_succ, List.getElem?_cons_zero] <;> rfl) (by kernel_rfl) (by kernel_rfl) (by kernel_rfl) (by exact fun _ _ _ h => h) (Or.inl ⟨by kernel_rfl, ?_⟩) (by assumption) ?_
        rotate_left
        · intro w' hSw; (try dsimp only at hSw); go_simp; try with_reducible rfl
        try simp only [Act.put, List.setIfInBounds_toArray, List.set_cons_zero, List.set_cons_succ]
        refine wpAnyH_take (i := 5) (v := ?_) (by simp only [List.getElem?_toArray, List.getElem?_cons_succ, List.getElem?_cons_zero] <;> rfl) (by kernel_rfl) (by kernel_rfl) (by kernel_rfl) (by exact fun _ _ _ h => h) (Or.inl ⟨by kernel_rfl, ?_⟩) (by assumption) ?_
        rotate_left
        · intro w' hSw; (try dsimp only at hSw); go_simp; try with_reducible rfl
        try simp only [Act.put, List.setIfInBounds_toArray, List.set_cons_zero, List.set_cons_succ]
        refine wpAnyH_take (i := 6) (v := ?_) (by simp only [List.getElem?_toArray, List.getElem?_cons_succ, List.getElem?_cons_zero] <;> rfl) (by kernel_rfl) (by kernel_rfl) (by kernel_rfl) (by exact fun _ _ _ h => h) (Or.inl ⟨by kernel_rfl, ?_⟩) (by assumption) ?_
        rotate_left
        · intro w' hSw; (try dsimp only at hSw); go_simp; try with_reducible rfl
        try simp only [Act.put, List.setIfInBounds_toArray, List.set_cons_zero, List.set_cons_succ]
        refine wpAnyH_take (i := 7) (v := ?_) (by simp only [List.getElem?_toArray, List.getElem?_cons_succ, List.getElem?_cons_zero] <;> rfl) (by kernel_rfl) (by kernel_rfl) (by kernel_rfl) (by exact fun _ _ _ h => h) (Or.inl ⟨by kernel_rfl, ?_⟩) (by assumption) ?_
        rotate_left
        · intro w' hSw; (try dsimp only at hSw); go_simp; try with_reducible rfl
        try simp only [Act.put, List.setIfInBounds_toArray, List.set_cons_zero, List.set_cons_succ]
        refine wpAnyH_take (i := 8) (v := ?_) (by simp only [List.getElem?_toArray, List.getElem?_cons_succ, List.getElem?_cons_zero] <;> rfl) (by kernel_rfl) (by kernel_rfl) (by kernel_rfl) (by exact fun _ _ _ h => h) (Or.inl ⟨by kernel_rfl, ?_⟩) (by assumption) ?_
        rotate_left
        · intro w' hSw; (try dsimp only at hSw); go_simp; try with_reducible rfl
        try simp only [Act.put, List.setIfInBounds_toArray, List.set_cons_zero, List.set_cons_succ]
        refine wpAnyH_take (i := 9) (v := ?_) (by simp only [List.getElem?_toArray, List.getElem?_cons_succ, List.getElem?_cons_zero] <;> rfl) (by kernel_rfl) (by kernel_rfl) (by kernel_rfl) (by exact fun _ _ _ h => h) (Or.inl ⟨by kernel_rfl, ?_⟩) (by assumption) ?_
        rotate_left
        · intro w' hSw; (try dsimp only at hSw); go_simp; try with_reducible rfl
        try simp only [Act.put, List.setIfInBounds_toArray, List.set_cons_zero, List.set_cons_succ]
        refine wpAnyH_take (i := 10) (v := ?_) (by simp only [List.getElem?_toArray, List.getElem?_cons_succ, List.getElem?_cons_zero] <;> rfl) (by kernel_rfl) (by kernel_rfl) (by kernel_rfl) (by exact fun _ _ _ h => h) (Or.inl ⟨by kernel_rfl, ?_⟩) (by assumption) ?_
        rotate_left
        · intro w' hSw; (try dsimp only at hSw); go_simp; try with_reducible rfl
        try simp only [Act.put, List.setIfInBounds_toArray, List.set_cons_zero, List.set_cons_succ]
        refine wpAnyH_take (i := 11) (v := ?_) (by simp only [List.getElem?_toArray, List.getElem?_cons_succ, List.getElem?_cons_zero] <;> rfl) (by kernel_rfl) (by kernel_rfl) (by kernel_rfl) (by exact fun _ _ _ h => h) (Or.inl ⟨by kernel_rfl, ?_⟩) (by assumption) ?_
        rotate_left
        · intro w' hSw; (try dsimp only at hSw); go_simp; try with_reducible rfl
        try simp only [Act.put, List.setIfInBounds_toArray, List.set_cons_zero, List.set_cons_succ]
        refine wpAnyH_take (i := 12) (v := ?_) (by simp only [List.getElem?_toArray, List.getElem?_cons_succ, List.getElem?_cons_zero] <;> rfl) (by kernel_rfl) (by kernel_rfl) (by kernel_rfl) (by exact fun _ _ _ h => h) (Or.inl ⟨by kernel_rfl, ?_⟩) (by assumption) ?_
        rotate_left
        · intro w' hSw; (try dsimp only at hSw); go_simp; try with_reducible rfl
        try simp only [Act.put, List.setIfInBounds_toArray, List.set_cons_zero, List.set_cons_succ]
        refine wpAnyH_ready (rs := [1, 13]) (by kernel_rfl) (by simp) (AllReadyH.cons rfl (fun K hK => ?r2x0_2_3_4_5_6_7_8_9_10_11_12_1) (AllReadyH.cons rfl (fun K hK => ?r2x0_2_3_4_5_6_7_8_9_10_11_12_13) AllReadyH.nil))
        case' r2x0_2_3_4_5_6_7_8_9_10_11_12_1 =>
          go_simp
          skip
          refine hK.out _ _ (by exact inferInstance) (fun hHeld => ?_)
          try simp only [Act.put, List.setIfInBounds_toArray, List.set_cons_zero, List.set_cons_succ]
          refine wpAnyH_ready (rs := [13]) (by kernel_rfl) (by simp) (AllReadyH.cons rfl (fun K hK => ?_) AllReadyH.nil)
          go_simp
          (go_at_call 94; (refine (spec_l1Own hrow.out inferInstance hx14).mono ?_; rintro e w3 ⟨A4, n4, c4, f4, rfl, o4, nd4, lo4, L3⟩; have L3b := Later.trans (w := wb) inferInstance L3; have L3x := Later.trans (w := wx) inferInstance L3; have L3k := Later.trans (w := wk) inferInstance L3; have L3r := Later.trans (w := wr) inferInstance L3))
          refine hK.out _ _ (by exact inferInstance) (fun hHeld => ?_)
          try simp only [Act.put, List.setIfInBounds_toArray, List.set_cons_zero, List.set_cons_succ]
          refine wpAnyH_ready (rs := [14]) (by kernel_rfl) (by simp) (AllReadyH.cons rfl (fun K hK => ?_) AllReadyH.nil)
          go_simp
          skip
          refine hK.out _ _ (by exact inferInstance) (fun hHeld => ?_)
          try simp only [Act.put, List.setIfInBounds_toArray, List.set_cons_zero, List.set_cons_succ]
          refine wpAnyH_ready (rs := [15]) (by kernel_rfl) (by simp) (AllReadyH.cons rfl (fun K hK => ?_) AllReadyH.nil)
          refine wp_app_R _ _ 25 rfl Try.underlying25 infoRow (by decide) (w0 := wk) (w1 := wr) rfl HR.out inferInstance inferInstance (by have := hks.out; omega) hbs (o4.later inferInstance) nd4 (fun g hg => Nat.le_trans (Later.size (w := wr) inferInstance) (lo4 g hg)) rfl hlen2.out ?_; intro v' w9 hown' hX9; obtain ⟨A9, n9, c9, rfl⟩ : ∃ A n c, v' = .slice A n c := (by obtain ⟨_, _, h1, _⟩ := hown'; obtain ⟨A, c, e⟩ := own_shape h1; exact ⟨A, _, c, e⟩); haveI hX9i := hX9; haveI hX9b := Later.trans (w := wb) inferInstance hX9; haveI hX9x := Later.trans (w := wx) inferInstance hX9
          refine hK.out _ _ (by exact inferInstance) (fun hHeld => ?_)
          try simp only [Act.put, List.setIfInBounds_toArray, List.set_cons_zero, List.set_cons_succ]
          refine wpAnyH_take (i := 16) (v := ?_) (by simp only [List.getElem?_toArray, List.getElem?_cons_succ, List.getElem?_cons_zero] <;> rfl) (by kernel_rfl) (by kernel_rfl) (by kernel_rfl) (by exact fun _ _ _ h => h) (Or.inl ⟨by kernel_rfl, ?_⟩) (by assumption) ?_
          rotate_left
          · intro w' hSw; (try dsimp only at hSw); go_simp; try with_reducible rfl
          try simp only [Act.put, List.setIfInBounds_toArray, List.set_cons_zero, List.set_cons_succ]
          refine wpAnyH_ready (rs := [17]) (by kernel_rfl) (by simp) (AllReadyH.cons rfl (fun K hK => ?_) AllReadyH.nil)
          go_simp
          skip
          refine hK.out _ _ (by exact inferInstance) (fun hHeld => ?_)
          try simp only [Act.put, List.setIfInBounds_toArray, List.set_cons_zero, List.set_cons_succ]
          refine wpAnyH_done (by kernel_rfl) ?_ _
        case' r2x0_2_3_4_5_6_7_8_9_10_11_12_13 =>
          go_simp
          (go_at_call 94; (refine (spec_l1Own hrow.out inferInstance hx14).mono ?_; rintro e w3 ⟨A4, n4, c4, f4, rfl, o4, nd4, lo4, L3⟩; have L3b := Later.trans (w := wb) inferInstance L3; have L3x := Later.trans (w := wx) inferInstance L3; have L3k := Later.trans (w := wk) inferInstance L3; have L3r := Later.trans (w := wr) inferInstance L3))
          refine hK.out _ _ (by exact inferInstance) (fun hHeld => ?_)
          try simp only [Act.put, List.setIfInBounds_toArray, List.set_cons_zero, List.set_cons_succ]
          refine wpAnyH_ready (rs := [1, 14]) (by kernel_rfl) (by simp) (AllReadyH.cons rfl (fun K hK => ?r2x0_2_3_4_5_6_7_8_9_10_11_12_13_1) (AllReadyH.cons rfl (fun K hK => ?r2x0_2_3_4_5_6_7_8_9_10_11_12_13_14) AllReadyH.nil))
          case' r2x0_2_3_4_5_6_7_8_9_10_11_12_13_1 =>
            go_simp
            skip
            refine hK.out _ _ (by exact inferInstance) (fun hHeld => ?_)
            try simp only [Act.put, List.setIfInBounds_toArray, List.set_cons_zero, List.set_cons_succ]
            refine wpAnyH_ready (rs := [14]) (by kernel_rfl) (by simp) (AllReadyH.cons rfl (fun K hK => ?_) AllReadyH.nil)
            go_simp
            skip
            refine hK.out _ _ (by exact inferInstance) (fun hHeld => ?_)
            try simp only [Act.put, List.setIfInBounds_toArray, List.set_cons_zero, List.set_cons_succ]
            refine wpAnyH_ready (rs := [15]) (by kernel_rfl) (by simp) (AllReadyH.cons rfl (fun K hK => ?_) AllReadyH.nil)
            refine wp_app_R _ _ 25 rfl Try.underlying25 infoRow (by decide) (w0 := wk) (w1 := wr) rfl HR.out inferInstance inferInstance (by have := hks.out; omega) hbs (o4.later inferInstance) nd4 (fun g hg => Nat.le_trans (Later.size (w := wr) inferInstance) (lo4 g hg)) rfl hlen2.out ?_; intro v' w9 hown' hX9; obtain ⟨A9, n9, c9, rfl⟩ : ∃ A n c, v' = .slice A n c := (by obtain ⟨_, _, h1, _⟩ := hown'; obtain ⟨A, c, e⟩ := own_shape h1; exact ⟨A, _, c, e⟩); haveI hX9i := hX9; haveI hX9b := Later.trans (w := wb) inferInstance hX9; haveI hX9x := Later.trans (w := wx) inferInstance hX9
            refine hK.out _ _ (by exact inferInstance) (fun hHeld => ?_)
            try simp only [Act.put, List.setIfInBounds_toArray, List.set_cons_zero, List.set_cons_succ]
            refine wpAnyH_take (i := 16) (v := ?_) (by simp only [List.getElem?_toArray, List.getElem?_cons_succ, List.getElem?_cons_zero] <;> rfl) (by kernel_rfl) (by kernel_rfl) (by kernel_rfl) (by exact fun _ _ _ h => h) (Or.inl ⟨by kernel_rfl, ?_⟩) (by assumption) ?_
            rotate_left
            · intro w' hSw; (try dsimp only at hSw); go_simp; try with_reducible rfl
            try simp only [Act.put, List.setIfInBounds_toArray, List.set_cons_zero, List.set_cons_succ]
            refine wpAnyH_ready (rs := [17]) (by kernel_rfl) (by simp) (AllReadyH.cons rfl (fun K hK => ?_) AllReadyH.nil)
            go_simp
            skip
            refine hK.out _ _ (by exact inferInstance) (fun hHeld => ?_)
            try simp only [Act.put, List.setIfInBounds_toArray, List.set_cons_zero, List.set_cons_succ]
            refine wpAnyH_done (by kernel_rfl) ?_ _
          case' r2x0_2_3_4_5_6_7_8_9_10_11_12_13_14 =>
            go_simp
            skip
            refine hK.out _ _ (by exact inferInstance) (fun hHeld => ?_)
            try simp only [Act.put, List.setIfInBounds_toArray, List.set_cons_zero, List.set_cons_succ]
            refine wpAnyH_ready (rs := [1]) (by kernel_rfl) (by simp) (AllReadyH.cons rfl (fun K hK => ?_) AllReadyH.nil)
            go_simp
            skip
            refine hK.out _ _ (by exact inferInstance) (fun hHeld => ?_)
            try simp only [Act.put, List.setIfInBounds_toArray, List.set_cons_zero, List.set_cons_succ]
            refine wpAnyH_ready (rs := [15]) (by kernel_rfl) (by simp) (AllReadyH.cons rfl (fun K hK => ?_) AllReadyH.nil)
            refine wp_app_R _ _ 25 rfl Try.underlying25 infoRow (by decide) (w0 := wk) (w1 := wr) rfl HR.out inferInstance inferInstance (by have := hks.out; omega) hbs (o4.later inferInstance) nd4 (fun g hg => Nat.le_trans (Later.size (w := wr) inferInstance) (lo4 g hg)) rfl hlen2.out ?_; intro v' w9 hown' hX9; obtain ⟨A9, n9, c9, rfl⟩ : ∃ A n c, v' = .slice A n c := (by obtain ⟨_, _, h1, _⟩ := hown'; obtain ⟨A, c, e⟩ := own_shape h1; exact ⟨A, _, c, e⟩); haveI hX9i := hX9; haveI hX9b := Later.trans (w := wb) inferInstance hX9; haveI hX9x := Later.trans (w := wx) inferInstance hX9
            refine hK.out _ _ (by exact inferInstance) (fun hHeld => ?_)
            try simp only [Act.put, List.setIfInBounds_toArray, List.set_cons_zero, List.set_cons_succ]
            refine wpAnyH_take (i := 16) (v := ?_) (by simp only [List.getElem?_toArray, List.getElem?_cons_succ, List.getElem?_cons_zero] <;> rfl) (by kernel_rfl) (by kernel_rfl) (by kernel_rfl) (by exact fun _ _ _ h => h) (Or.inl ⟨by kernel_rfl, ?_⟩) (by assumption) ?_
            rotate_left
            · intro w' hSw; (try dsimp only at hSw); go_simp; try with_reducible rfl
            try simp only [Act.put, List.setIfInBounds_toArray, List.set_cons_zero, List.set_cons_succ]
            refine wpAnyH_ready (rs := [17]) (by kernel_rfl) (by simp) (AllReadyH.cons rfl (fun K hK => ?_) AllReadyH.nil)
            go_simp
            skip
            refine hK.out _ _ (by exact inferInstance) (fun hHeld => ?_)
            try simp only [Act.put, List.setIfInBounds_toArray, List.set_cons_zero, List.set_cons_succ]
            refine wpAnyH_done (by kernel_rfl) ?_ _
        all_goals
          go_wp2
          go_roundw
          case rel => exact ⟨k + 1, .slice A9 n9 c9, by omega, by go_num, (hGk.later hX9).set_ 4 _, Lib.hid (by have h8 := hown'.set_ (b := gx) hgxl 4 (.slice A9 n9 c9); rw [HXR.out] at h8; exact h8), Lib.hid ((hOk.out.later hX9).setc hgf 4 (.slice A9 n9 c9)), by have := hX9.size; have := hks.out; simp; omega, inferInstance, inferInstance⟩
          case measure => simp [intOf]; omega
      · have hks : k = sn1 := by omega
        subst hks
        have HT : Hid ((turned r m).take k = turned r m) := by show _ = _; rw [List.take_of_length_le (by rw [turned_len, ← hlen.out]; omega)]
        have HR2 := HR.out
        rw [HT.out] at HR2
        obtain ⟨A3, c3, fpp, rfl, ho3, hnd3, hlo3⟩ := HR2.shut
        have HO3 := Lib.hid ho3
        have HN3 := Lib.hid hnd3
        have HL3 := Lib.hid hlo3
        clear HR HR2 ho3 hnd3 hlo3
        obtain ⟨h5a, h5b, h5c, h5d, h5e⟩ := HG.five
        have hB := HBX.later hZ
        have hcr := fun i => hB.cell i
        have hfr := fun i => hB.frozen i
        have hb0 : w.heap.size + 1 < wx.heap.size := HBX.lt
        have hxs : wx.heap.size ≤ wf.heap.size := Later.size (w := wx) (W := wf) inferInstance
        go_wp2
        have HF := ((((hB.set_ 0 (.slice A2 sn0 c2)).set_ 1 (.int .i64 r.Rules.MinRest)).set_ 2 (.int .i64 r.Rules.MaxRow)).set_ 3 (.int .i64 r.Rules.MaxWeek)).set_ 4 (.slice A3 (turned r m).length c3)
        have hr0 := (HF.cell 0).trans (show _ = some (.slice A2 sn0 c2 : Value) from rfl)
        have hr1 := (HF.cell 1).trans (show _ = some (.int .i64 r.Rules.MinRest : Value) from rfl)
        have hr2 := (HF.cell 2).trans (show _ = some (.int .i64 r.Rules.MaxRow : Value) from rfl)
        have hr3 := (HF.cell 3).trans (show _ = some (.int .i64 r.Rules.MaxWeek : Value) from rfl)
        have hr4 := (HF.cell 4).trans (show _ = some (.slice A3 (turned r m).length c3 : Value) from rfl)
        have hb2 : w.heap.size + 1 ∉ f2 := fun hh => by have := HLO.out _ hh; omega
        have hb3 : w.heap.size + 1 ∉ fpp := fun hh => by have := HL3.out _ hh; omega
        refine bodyPost_ret (v := .tuple #[.agg #[.slice A2 sn0 c2, .int .i64 r.Rules.MinRest, .int .i64 r.Rules.MaxRow, .int .i64 r.Rules.MaxWeek, .slice A3 (turned r m).length c3], .bool true]) (by simp [results, Try.results19, go_sem, hr0, hr1, hr2, hr3, hr4]) rfl ?_
        exact ⟨A2, sn0, c2, A3, (turned r m).length, c3, f2, fpp, rfl, ⟨((((HO.out.setc hb2 _ _).setc hb2 _ _).setc hb2 _ _).setc hb2 _ _).setc hb2 _ _, HI.out.1, HI.out.2.1, HI.out.2.2, ((((HO3.out.setc hb3 _ _).setc hb3 _ _).setc hb3 _ _).setc hb3 _ _).setc hb3 _ _⟩, nodup_app HND.out HN3.out HLT.out HL3.out, fun g hg => by
          rcases List.mem_append.1 hg with hg | hg
          · have := HLO.out g hg; omega
          · have := HL3.out g hg; omega, hww.trans inferInstance⟩
  · go_wp2_with fail
    go_loopw [7] (fun i wr => ∃ (k : Nat) (v : Value), k ≤ sn1 ∧ i = .int .i64 k ∧ Blk wr gx 32 #[.slice A2 sn0 c2, .int .i64 r.Rules.MinRest, .int .i64 r.Rules.MaxRow, .int .i64 r.Rules.MaxWeek, v] ∧ Hid (ORows wr wf.heap.size 111 v ((turned r m).take k)) ∧ Hid (OSl 2 oSpan wr A2 sn0 c2 r.Shifts f2) ∧ wf.heap.size ≤ wr.heap.size ∧ Later wb wr ∧ Later wx wr) (fun i _ => sn1 - (intOf i).toNat)
    case atStart => exact ⟨0, .slice none 0 0, by omega, rfl, HG, Lib.hid (by rw [List.take_zero]; exact ORows.nil_ _ _ _), HO, Nat.le_refl _, inferInstance, inferInstance⟩
    case round =>
      obtain ⟨k, v, hk, rfl, HG, HR, HO, hbs, hX, hZ⟩ := hrel
      by_cases hlt : k < sn1
      · obtain ⟨b', o', A1, n1, c1, x, hA, hx, hc, hrow⟩ := Sl.row_ (H.out.l_Plan) (k := (k + m) % sn1) (Nat.mod_lt _ (by omega))
        cases hA
        have hx14 : n1 ≤ 1073741824 := by
          have h1 := (ok.out.row _ x hx.out).1
          have h2 := ok.out.days
          have h3 := hrow.len
          unfold days at h2
          omega
        have HXR : Hid ((turned r m).take k ++ [x] = (turned r m).take (k + 1)) := take_one (by rw [turned_at (by rw [← hlen.out]; exact hlt), ← hlen.out, rowOf_eq hx.out])
        have hlen2 : Hid (((turned r m).take k).length ≤ 1073741824) := by show _ ≤ _; rw [List.length_take, turned_len, ← hlen.out]; omega
        have hne : ¬ sn1 = 0 := by omega
        have hrem : (IntKind.i64.wrap ((k : Int) + (m : Int))).tmod (sn1 : Int) = (((k + m) % sn1 : Nat) : Int) := by
          rw [show IntKind.i64.wrap ((k : Int) + (m : Int)) = (k : Int) + (m : Int) from by rw [IntKind.wrap_i64]; omega, Int.tmod_eq_emod_of_nonneg (by omega)]; simp
        have hql : (k + m) % sn1 < sn1 := Nat.mod_lt _ (by omega)
        clear hx
        generalize (k + m) % sn1 = q at hrem hql hc
        have hrow := Lib.hid hrow
        have hgxl : gx < wf.heap.size := Nat.lt_of_lt_of_le HGL.out (Nat.le_refl _)
        obtain ⟨wk, hwk⟩ : ∃ W : World, W = cutW wr wf.heap.size := ⟨_, rfl⟩
        have hks : Hid (wk.heap.size = wf.heap.size) := by show _ = _; rw [hwk]; exact cutW_size hbs
        haveI hkr : Later wk wr := by rw [hwk]; exact cutW_later hbs
        haveI hkx : Later wx wk := by rw [hwk]; exact cutW_of hZ (Later.size (w := wx) (W := wf) inferInstance) hbs
        haveI hkb : Later wb wk := Later.trans hbx hkx
        have hGk : Blk wk gx 32 #[.slice A2 sn0 c2, .int .i64 r.Rules.MinRest, .int .i64 r.Rules.MaxRow, .int .i64 r.Rules.MaxWeek, v] := by rw [hwk]; exact HG.cut hgxl
        have hOk : Hid (OSl 2 oSpan wk A2 sn0 c2 r.Shifts f2) := Lib.hid (by rw [hwk]; exact HO.out.cut HLT.out)
        clear hwk HG HO
        obtain ⟨h5a, h5b, h5c, h5d, h5e⟩ := hGk.five
        have hfx : ∀ (i : Nat) (W : World) [Later wk W], W.frozen? ⟨gx, i, none⟩ = false := fun i W hW => (hGk.later hW).frozen i
        go_wp2_with fail
        refine wp_region_held_drew (S := (fun w' => Later wb w')) (by kernel_rfl) (by exact inferInstance) (fun hHeld => ?_)
        refine wpAnyH_take (i := 0) (v := ?_) (by simp only [List.getElem?_toArray, List.getElem?_cons_zero] <;> rfl) (by kernel_rfl) (by kernel_rfl) (by kernel_rfl) (by exact fun _ _ _ h => h) (Or.inl ⟨by kernel_rfl, ?_⟩) (by assumption) ?_
        rotate_left
        · intro w' hSw; (try dsimp only at hSw); go_simp; try with_reducible rfl
        try simp only [Act.put, List.setIfInBounds_toArray, List.set_cons_zero, List.set_cons_succ]
        refine wpAnyH_take (i := 2) (v := ?_) (by simp only [List.getElem?_toArray, List.getElem?_cons_succ, List.getElem?_cons_zero] <;> rfl) (by kernel_rfl) (by kernel_rfl) (by kernel_rfl) (by exact fun _ _ _ h => h) (Or.inl ⟨by kernel_rfl, ?_⟩) (by assumption) ?_
        rotate_left
        · intro w' hSw; (try dsimp only at hSw); go_simp; try with_reducible rfl
        try simp only [Act.put, List.setIfInBounds_toArray, List.set_cons_zero, List.set_cons_succ]
        refine wpAnyH_take (i := 3) (v := ?_) (by simp only [List.getElem?_toArray, List.getElem?_cons_succ, List.getElem?_cons_zero] <;> rfl) (by kernel_rfl) (by kernel_rfl) (by kernel_rfl) (by exact fun _ _ _ h => h) (Or.inl ⟨by kernel_rfl, ?_⟩) (by assumption) ?_
        rotate_left
        · intro w' hSw; (try dsimp only at hSw); go_simp; try with_reducible rfl
        try simp only [Act.put, List.setIfInBounds_toArray, List.set_cons_zero, List.set_cons_succ]
        refine wpAnyH_take (i := 4) (v := ?_) (by simp only [List.getElem?_toArray, List.getElem?_cons_succ, List.getElem?_cons_zero] <;> rfl) (by kernel_rfl) (by kernel_rfl) (by kernel_rfl) (by exact fun _ _ _ h => h) (Or.inl ⟨by kernel_rfl, ?_⟩) (by assumption) ?_
        rotate_left
        · intro w' hSw; (try dsimp only at hSw); go_simp; try with_reducible rfl
        try simp only [Act.put, List.setIfInBounds_toArray, List.set_cons_zero, List.set_cons_succ]
        refine wpAnyH_take (i := 5) (v := ?_) (by simp only [List.getElem?_toArray, List.getElem?_cons_succ, List.getElem?_cons_zero] <;> rfl) (by kernel_rfl) (by kernel_rfl) (by kernel_rfl) (by exact fun _ _ _ h => h) (Or.inl ⟨by kernel_rfl, ?_⟩) (by assumption) ?_
        rotate_left
        · intro w' hSw; (try dsimp only at hSw); go_simp; try with_reducible rfl
        try simp only [Act.put, List.setIfInBounds_toArray, List.set_cons_zero, List.set_cons_succ]
        refine wpAnyH_take (i := 6) (v := ?_) (by simp only [List.getElem?_toArray, List.getElem?_cons_succ, List.getElem?_cons_zero] <;> rfl) (by kernel_rfl) (by kernel_rfl) (by kernel_rfl) (by exact fun _ _ _ h => h) (Or.inl ⟨by kernel_rfl, ?_⟩) (by assumption) ?_
        rotate_left
        · intro w' hSw; (try dsimp only at hSw); go_simp; try with_reducible rfl
        try simp only [Act.put, List.setIfInBounds_toArray, List.set_cons_zero, List.set_cons_succ]
        refine wpAnyH_take (i := 7) (v := ?_) (by simp only [List.getElem?_toArray, List.getElem?_cons_succ, List.getElem?_cons_zero] <;> rfl) (by kernel_rfl) (by kernel_rfl) (by kernel_rfl) (by exact fun _ _ _ h => h) (Or.inl ⟨by kernel_rfl, ?_⟩) (by assumption) ?_
        rotate_left
        · intro w' hSw; (try dsimp only at hSw); go_simp; try with_reducible rfl
        try simp only [Act.put, List.setIfInBounds_toArray, List.set_cons_zero, List.set_cons_succ]
        refine wpAnyH_take (i := 8) (v := ?_) (by simp only [List.getElem?_toArray, List.getElem?_cons_succ, List.getElem?_cons_zero] <;> rfl) (by kernel_rfl) (by kernel_rfl) (by kernel_rfl) (by exact fun _ _ _ h => h) (Or.inl ⟨by kernel_rfl, ?_⟩) (by assumption) ?_
        rotate_left
        · intro w' hSw; (try dsimp only at hSw); go_simp; try with_reducible rfl
        try simp only [Act.put, List.setIfInBounds_toArray, List.set_cons_zero, List.set_cons_succ]
        refine wpAnyH_take (i := 9) (v := ?_) (by simp only [List.getElem?_toArray, List.getElem?_cons_succ, List.getElem?_cons_zero] <;> rfl) (by kernel_rfl) (by kernel_rfl) (by kernel_rfl) (by exact fun _ _ _ h => h) (Or.inl ⟨by kernel_rfl, ?_⟩) (by assumption) ?_
        rotate_left
        · intro w' hSw; (try dsimp only at hSw); go_simp; try with_reducible rfl
        try simp only [Act.put, List.setIfInBounds_toArray, List.set_cons_zero, List.set_cons_succ]
        refine wpAnyH_take (i := 10) (v := ?_) (by simp only [List.getElem?_toArray, List.getElem?_cons_succ, List.getElem?_cons_zero] <;> rfl) (by kernel_rfl) (by kernel_rfl) (by kernel_rfl) (by exact fun _ _ _ h => h) (Or.inl ⟨by kernel_rfl, ?_⟩) (by assumption) ?_
        rotate_left
        · intro w' hSw; (try dsimp only at hSw); go_simp; try with_reducible rfl
        try simp only [Act.put, List.setIfInBounds_toArray, List.set_cons_zero, List.set_cons_succ]
        refine wpAnyH_take (i := 11) (v := ?_) (by simp only [List.getElem?_toArray, List.getElem?_cons_succ, List.getElem?_cons_zero] <;> rfl) (by kernel_rfl) (by kernel_rfl) (by kernel_rfl) (by exact fun _ _ _ h => h) (Or.inl ⟨by kernel_rfl, ?_⟩) (by assumption) ?_
        rotate_left
        · intro w' hSw; (try dsimp only at hSw); go_simp; try with_reducible rfl
        try simp only [Act.put, List.setIfInBounds_toArray, List.set_cons_zero, List.set_cons_succ]
        refine wpAnyH_take (i := 12) (v := ?_) (by simp only [List.getElem?_toArray, List.getElem?_cons_succ, List.getElem?_cons_zero] <;> rfl) (by kernel_rfl) (by kernel_rfl) (by kernel_rfl) (by exact fun _ _ _ h => h) (Or.inl ⟨by kernel_rfl, ?_⟩) (by assumption) ?_
        rotate_left
        · intro w' hSw; (try dsimp only at hSw); go_simp; try with_reducible rfl
        try simp only [Act.put, List.setIfInBounds_toArray, List.set_cons_zero, List.set_cons_succ]
        refine wpAnyH_ready (rs := [1, 13]) (by kernel_rfl) (by simp) (AllReadyH.cons rfl (fun K hK => ?r3x0_2_3_4_5_6_7_8_9_10_11_12_1) (AllReadyH.cons rfl (fun K hK => ?r3x0_2_3_4_5_6_7_8_9_10_11_12_13) AllReadyH.nil))
        case' r3x0_2_3_4_5_6_7_8_9_10_11_12_1 =>
          go_simp
          skip
          refine hK.out _ _ (by exact inferInstance) (fun hHeld => ?_)
          try simp only [Act.put, List.setIfInBounds_toArray, List.set_cons_zero, List.set_cons_succ]
          refine wpAnyH_ready (rs := [13]) (by kernel_rfl) (by simp) (AllReadyH.cons rfl (fun K hK => ?_) AllReadyH.nil)
          go_simp
          (go_at_call 94; (refine (spec_l1Own hrow.out inferInstance hx14).mono ?_; rintro e w3 ⟨A4, n4, c4, f4, rfl, o4, nd4, lo4, L3⟩; have L3b := Later.trans (w := wb) inferInstance L3; have L3x := Later.trans (w := wx) inferInstance L3; have L3k := Later.trans (w := wk) inferInstance L3; have L3r := Later.trans (w := wr) inferInstance L3))
          refine hK.out _ _ (by exact inferInstance) (fun hHeld => ?_)
          try simp only [Act.put, List.setIfInBounds_toArray, List.set_cons_zero, List.set_cons_succ]
          refine wpAnyH_ready (rs := [14]) (by kernel_rfl) (by simp) (AllReadyH.cons rfl (fun K hK => ?_) AllReadyH.nil)
          go_simp
          skip
          refine hK.out _ _ (by exact inferInstance) (fun hHeld => ?_)
          try simp only [Act.put, List.setIfInBounds_toArray, List.set_cons_zero, List.set_cons_succ]
          refine wpAnyH_ready (rs := [15]) (by kernel_rfl) (by simp) (AllReadyH.cons rfl (fun K hK => ?_) AllReadyH.nil)
          refine wp_app_R _ _ 25 rfl Try.underlying25 infoRow (by decide) (w0 := wk) (w1 := wr) rfl HR.out inferInstance inferInstance (by have := hks.out; omega) hbs (o4.later inferInstance) nd4 (fun g hg => Nat.le_trans (Later.size (w := wr) inferInstance) (lo4 g hg)) rfl hlen2.out ?_; intro v' w9 hown' hX9; obtain ⟨A9, n9, c9, rfl⟩ : ∃ A n c, v' = .slice A n c := (by obtain ⟨_, _, h1, _⟩ := hown'; obtain ⟨A, c, e⟩ := own_shape h1; exact ⟨A, _, c, e⟩); haveI hX9i := hX9; haveI hX9b := Later.trans (w := wb) inferInstance hX9; haveI hX9x := Later.trans (w := wx) inferInstance hX9
          refine hK.out _ _ (by exact inferInstance) (fun hHeld => ?_)
          try simp only [Act.put, List.setIfInBounds_toArray, List.set_cons_zero, List.set_cons_succ]
          refine wpAnyH_take (i := 16) (v := ?_) (by simp only [List.getElem?_toArray, List.getElem?_cons_succ, List.getElem?_cons_zero] <;> rfl) (by kernel_rfl) (by kernel_rfl) (by kernel_rfl) (by exact fun _ _ _ h => h) (Or.inl ⟨by kernel_rfl, ?_⟩) (by assumption) ?_
          rotate_left
          · intro w' hSw; (try dsimp only at hSw); go_simp; try with_reducible rfl
          try simp only [Act.put, List.setIfInBounds_toArray, List.set_cons_zero, List.set_cons_succ]
          refine wpAnyH_ready (rs := [17]) (by kernel_rfl) (by simp) (AllReadyH.cons rfl (fun K hK => ?_) AllReadyH.nil)
          go_simp
          skip
          refine hK.out _ _ (by exact inferInstance) (fun hHeld => ?_)
          try simp only [Act.put, List.setIfInBounds_toArray, List.set_cons_zero, List.set_cons_succ]
          refine wpAnyH_done (by kernel_rfl) ?_ _
        case' r3x0_2_3_4_5_6_7_8_9_10_11_12_13 =>
          go_simp
          (go_at_call 94; (refine (spec_l1Own hrow.out inferInstance hx14).mono ?_; rintro e w3 ⟨A4, n4, c4, f4, rfl, o4, nd4, lo4, L3⟩; have L3b := Later.trans (w := wb) inferInstance L3; have L3x := Later.trans (w := wx) inferInstance L3; have L3k := Later.trans (w := wk) inferInstance L3; have L3r := Later.trans (w := wr) inferInstance L3))
          refine hK.out _ _ (by exact inferInstance) (fun hHeld => ?_)
          try simp only [Act.put, List.setIfInBounds_toArray, List.set_cons_zero, List.set_cons_succ]
          refine wpAnyH_ready (rs := [1, 14]) (by kernel_rfl) (by simp) (AllReadyH.cons rfl (fun K hK => ?r3x0_2_3_4_5_6_7_8_9_10_11_12_13_1) (AllReadyH.cons rfl (fun K hK => ?r3x0_2_3_4_5_6_7_8_9_10_11_12_13_14) AllReadyH.nil))
          case' r3x0_2_3_4_5_6_7_8_9_10_11_12_13_1 =>
            go_simp
            skip
            refine hK.out _ _ (by exact inferInstance) (fun hHeld => ?_)
            try simp only [Act.put, List.setIfInBounds_toArray, List.set_cons_zero, List.set_cons_succ]
            refine wpAnyH_ready (rs := [14]) (by kernel_rfl) (by simp) (AllReadyH.cons rfl (fun K hK => ?_) AllReadyH.nil)
            go_simp
            skip
            refine hK.out _ _ (by exact inferInstance) (fun hHeld => ?_)
            try simp only [Act.put, List.setIfInBounds_toArray, List.set_cons_zero, List.set_cons_succ]
            refine wpAnyH_ready (rs := [15]) (by kernel_rfl) (by simp) (AllReadyH.cons rfl (fun K hK => ?_) AllReadyH.nil)
            refine wp_app_R _ _ 25 rfl Try.underlying25 infoRow (by decide) (w0 := wk) (w1 := wr) rfl HR.out inferInstance inferInstance (by have := hks.out; omega) hbs (o4.later inferInstance) nd4 (fun g hg => Nat.le_trans (Later.size (w := wr) inferInstance) (lo4 g hg)) rfl hlen2.out ?_; intro v' w9 hown' hX9; obtain ⟨A9, n9, c9, rfl⟩ : ∃ A n c, v' = .slice A n c := (by obtain ⟨_, _, h1, _⟩ := hown'; obtain ⟨A, c, e⟩ := own_shape h1; exact ⟨A, _, c, e⟩); haveI hX9i := hX9; haveI hX9b := Later.trans (w := wb) inferInstance hX9; haveI hX9x := Later.trans (w := wx) inferInstance hX9
            refine hK.out _ _ (by exact inferInstance) (fun hHeld => ?_)
            try simp only [Act.put, List.setIfInBounds_toArray, List.set_cons_zero, List.set_cons_succ]
            refine wpAnyH_take (i := 16) (v := ?_) (by simp only [List.getElem?_toArray, List.getElem?_cons_succ, List.getElem?_cons_zero] <;> rfl) (by kernel_rfl) (by kernel_rfl) (by kernel_rfl) (by exact fun _ _ _ h => h) (Or.inl ⟨by kernel_rfl, ?_⟩) (by assumption) ?_
            rotate_left
            · intro w' hSw; (try dsimp only at hSw); go_simp; try with_reducible rfl
            try simp only [Act.put, List.setIfInBounds_toArray, List.set_cons_zero, List.set_cons_succ]
            refine wpAnyH_ready (rs := [17]) (by kernel_rfl) (by simp) (AllReadyH.cons rfl (fun K hK => ?_) AllReadyH.nil)
            go_simp
            skip
            refine hK.out _ _ (by exact inferInstance) (fun hHeld => ?_)
            try simp only [Act.put, List.setIfInBounds_toArray, List.set_cons_zero, List.set_cons_succ]
            refine wpAnyH_done (by kernel_rfl) ?_ _
          case' r3x0_2_3_4_5_6_7_8_9_10_11_12_13_14 =>
            go_simp
            skip
            refine hK.out _ _ (by exact inferInstance) (fun hHeld => ?_)
            try simp only [Act.put, List.setIfInBounds_toArray, List.set_cons_zero, List.set_cons_succ]
            refine wpAnyH_ready (rs := [1]) (by kernel_rfl) (by simp) (AllReadyH.cons rfl (fun K hK => ?_) AllReadyH.nil)
            go_simp
            skip
            refine hK.out _ _ (by exact inferInstance) (fun hHeld => ?_)
            try simp only [Act.put, List.setIfInBounds_toArray, List.set_cons_zero, List.set_cons_succ]
            refine wpAnyH_ready (rs := [15]) (by kernel_rfl) (by simp) (AllReadyH.cons rfl (fun K hK => ?_) AllReadyH.nil)
            refine wp_app_R _ _ 25 rfl Try.underlying25 infoRow (by decide) (w0 := wk) (w1 := wr) rfl HR.out inferInstance inferInstance (by have := hks.out; omega) hbs (o4.later inferInstance) nd4 (fun g hg => Nat.le_trans (Later.size (w := wr) inferInstance) (lo4 g hg)) rfl hlen2.out ?_; intro v' w9 hown' hX9; obtain ⟨A9, n9, c9, rfl⟩ : ∃ A n c, v' = .slice A n c := (by obtain ⟨_, _, h1, _⟩ := hown'; obtain ⟨A, c, e⟩ := own_shape h1; exact ⟨A, _, c, e⟩); haveI hX9i := hX9; haveI hX9b := Later.trans (w := wb) inferInstance hX9; haveI hX9x := Later.trans (w := wx) inferInstance hX9
            refine hK.out _ _ (by exact inferInstance) (fun hHeld => ?_)
            try simp only [Act.put, List.setIfInBounds_toArray, List.set_cons_zero, List.set_cons_succ]
            refine wpAnyH_take (i := 16) (v := ?_) (by simp only [List.getElem?_toArray, List.getElem?_cons_succ, List.getElem?_cons_zero] <;> rfl) (by kernel_rfl) (by kernel_rfl) (by kernel_rfl) (by exact fun _ _ _ h => h) (Or.inl ⟨by kernel_rfl, ?_⟩) (by assumption) ?_
            rotate_left
            · intro w' hSw; (try dsimp only at hSw); go_simp; try with_reducible rfl
            try simp only [Act.put, List.setIfInBounds_toArray, List.set_cons_zero, List.set_cons_succ]
            refine wpAnyH_ready (rs := [17]) (by kernel_rfl) (by simp) (AllReadyH.cons rfl (fun K hK => ?_) AllReadyH.nil)
            go_simp
            skip
            refine hK.out _ _ (by exact inferInstance) (fun hHeld => ?_)
            try simp only [Act.put, List.setIfInBounds_toArray, List.set_cons_zero, List.set_cons_succ]
            refine wpAnyH_done (by kernel_rfl) ?_ _
        all_goals
          go_wp2
          go_roundw
          case rel => exact ⟨k + 1, .slice A9 n9 c9, by omega, by go_num, (hGk.later hX9).set_ 4 _, Lib.hid (by have h8 := hown'.set_ (b := gx) hgxl 4 (.slice A9 n9 c9); rw [HXR.out] at h8; exact h8), Lib.hid ((hOk.out.later hX9).setc hgf 4 (.slice A9 n9 c9)), by have := hX9.size; have := hks.out; simp; omega, inferInstance, inferInstance⟩
          case measure => simp [intOf]; omega
      · have hks : k = sn1 := by omega
        subst hks
        have HT : Hid ((turned r m).take k = turned r m) := by show _ = _; rw [List.take_of_length_le (by rw [turned_len, ← hlen.out]; omega)]
        have HR2 := HR.out
        rw [HT.out] at HR2
        obtain ⟨A3, c3, fpp, rfl, ho3, hnd3, hlo3⟩ := HR2.shut
        have HO3 := Lib.hid ho3
        have HN3 := Lib.hid hnd3
        have HL3 := Lib.hid hlo3
        clear HR HR2 ho3 hnd3 hlo3
        obtain ⟨h5a, h5b, h5c, h5d, h5e⟩ := HG.five
        have hB := HBX.later hZ
        have hcr := fun i => hB.cell i
        have hfr := fun i => hB.frozen i
        have hb0 : w.heap.size + 1 < wx.heap.size := HBX.lt
        have hxs : wx.heap.size ≤ wf.heap.size := Later.size (w := wx) (W := wf) inferInstance
        go_wp2
        have HF := ((((hB.set_ 0 (.slice A2 sn0 c2)).set_ 1 (.int .i64 r.Rules.MinRest)).set_ 2 (.int .i64 r.Rules.MaxRow)).set_ 3 (.int .i64 r.Rules.MaxWeek)).set_ 4 (.slice A3 (turned r m).length c3)
        have hr0 := (HF.cell 0).trans (show _ = some (.slice A2 sn0 c2 : Value) from rfl)
        have hr1 := (HF.cell 1).trans (show _ = some (.int .i64 r.Rules.MinRest : Value) from rfl)
        have hr2 := (HF.cell 2).trans (show _ = some (.int .i64 r.Rules.MaxRow : Value) from rfl)
        have hr3 := (HF.cell 3).trans (show _ = some (.int .i64 r.Rules.MaxWeek : Value) from rfl)
        have hr4 := (HF.cell 4).trans (show _ = some (.slice A3 (turned r m).length c3 : Value) from rfl)
        have hb2 : w.heap.size + 1 ∉ f2 := fun hh => by have := HLO.out _ hh; omega
        have hb3 : w.heap.size + 1 ∉ fpp := fun hh => by have := HL3.out _ hh; omega
        refine bodyPost_ret (v := .tuple #[.agg #[.slice A2 sn0 c2, .int .i64 r.Rules.MinRest, .int .i64 r.Rules.MaxRow, .int .i64 r.Rules.MaxWeek, .slice A3 (turned r m).length c3], .bool true]) (by simp [results, Try.results19, go_sem, hr0, hr1, hr2, hr3, hr4]) rfl ?_
        exact ⟨A2, sn0, c2, A3, (turned r m).length, c3, f2, fpp, rfl, ⟨((((HO.out.setc hb2 _ _).setc hb2 _ _).setc hb2 _ _).setc hb2 _ _).setc hb2 _ _, HI.out.1, HI.out.2.1, HI.out.2.2, ((((HO3.out.setc hb3 _ _).setc hb3 _ _).setc hb3 _ _).setc hb3 _ _).setc hb3 _ _⟩, nodup_app HND.out HN3.out HLT.out HL3.out, fun g hg => by
          rcases List.mem_append.1 hg with hg | hg
          · have := HLO.out g hg; omega
          · have := HL3.out g hg; omega, hww.trans inferInstance⟩
  · go_wp2_with fail
    go_loopw [7] (fun i wr => ∃ (k : Nat) (v : Value), k ≤ sn1 ∧ i = .int .i64 k ∧ Blk wr gx 32 #[.slice A2 sn0 c2, .int .i64 r.Rules.MinRest, .int .i64 r.Rules.MaxRow, .int .i64 r.Rules.MaxWeek, v] ∧ Hid (ORows wr wf.heap.size 111 v ((turned r m).take k)) ∧ Hid (OSl 2 oSpan wr A2 sn0 c2 r.Shifts f2) ∧ wf.heap.size ≤ wr.heap.size ∧ Later wb wr ∧ Later wx wr) (fun i _ => sn1 - (intOf i).toNat)
    case atStart => exact ⟨0, .slice none 0 0, by omega, rfl, HG, Lib.hid (by rw [List.take_zero]; exact ORows.nil_ _ _ _), HO, Nat.le_refl _, inferInstance, inferInstance⟩
    case round =>
      obtain ⟨k, v, hk, rfl, HG, HR, HO, hbs, hX, hZ⟩ := hrel
      by_cases hlt : k < sn1
      · obtain ⟨b', o', A1, n1, c1, x, hA, hx, hc, hrow⟩ := Sl.row_ (H.out.l_Plan) (k := (k + m) % sn1) (Nat.mod_lt _ (by omega))
        cases hA
        have hx14 : n1 ≤ 1073741824 := by
          have h1 := (ok.out.row _ x hx.out).1
          have h2 := ok.out.days
          have h3 := hrow.len
          unfold days at h2
          omega
        have HXR : Hid ((turned r m).take k ++ [x] = (turned r m).take (k + 1)) := take_one (by rw [turned_at (by rw [← hlen.out]; exact hlt), ← hlen.out, rowOf_eq hx.out])
        have hlen2 : Hid (((turned r m).take k).length ≤ 1073741824) := by show _ ≤ _; rw [List.length_take, turned_len, ← hlen.out]; omega
        have hne : ¬ sn1 = 0 := by omega
        have hrem : (IntKind.i64.wrap ((k : Int) + (m : Int))).tmod (sn1 : Int) = (((k + m) % sn1 : Nat) : Int) := by
          rw [show IntKind.i64.wrap ((k : Int) + (m : Int)) = (k : Int) + (m : Int) from by rw [IntKind.wrap_i64]; omega, Int.tmod_eq_emod_of_nonneg (by omega)]; simp
        have hql : (k + m) % sn1 < sn1 := Nat.mod_lt _ (by omega)
        clear hx
        generalize (k + m) % sn1 = q at hrem hql hc
        have hrow := Lib.hid hrow
        have hgxl : gx < wf.heap.size := Nat.lt_of_lt_of_le HGL.out (Nat.le_refl _)
        obtain ⟨wk, hwk⟩ : ∃ W : World, W = cutW wr wf.heap.size := ⟨_, rfl⟩
        have hks : Hid (wk.heap.size = wf.heap.size) := by show _ = _; rw [hwk]; exact cutW_size hbs
        haveI hkr : Later wk wr := by rw [hwk]; exact cutW_later hbs
        haveI hkx : Later wx wk := by rw [hwk]; exact cutW_of hZ (Later.size (w := wx) (W := wf) inferInstance) hbs
        haveI hkb : Later wb wk := Later.trans hbx hkx
        have hGk : Blk wk gx 32 #[.slice A2 sn0 c2, .int .i64 r.Rules.MinRest, .int .i64 r.Rules.MaxRow, .int .i64 r.Rules.MaxWeek, v] := by rw [hwk]; exact HG.cut hgxl
        have hOk : Hid (OSl 2 oSpan wk A2 sn0 c2 r.Shifts f2) := Lib.hid (by rw [hwk]; exact HO.out.cut HLT.out)
        clear hwk HG HO
        obtain ⟨h5a, h5b, h5c, h5d, h5e⟩ := hGk.five
        have hfx : ∀ (i : Nat) (W : World) [Later wk W], W.frozen? ⟨gx, i, none⟩ = false := fun i W hW => (hGk.later hW).frozen i
        go_wp2_with fail
        refine wp_region_held_drew (S := (fun w' => Later wb w')) (by kernel_rfl) (by exact inferInstance) (fun hHeld => ?_)
        refine wpAnyH_take (i := 0) (v := ?_) (by simp only [List.getElem?_toArray, List.getElem?_cons_zero] <;> rfl) (by kernel_rfl) (by kernel_rfl) (by kernel_rfl) (by exact fun _ _ _ h => h) (Or.inl ⟨by kernel_rfl, ?_⟩) (by assumption) ?_
        rotate_left
        · intro w' hSw; (try dsimp only at hSw); go_simp; try with_reducible rfl
        try simp only [Act.put, List.setIfInBounds_toArray, List.set_cons_zero, List.set_cons_succ]
        refine wpAnyH_take (i := 2) (v := ?_) (by simp only [List.getElem?_toArray, List.getElem?_cons_succ, List.getElem?_cons_zero] <;> rfl) (by kernel_rfl) (by kernel_rfl) (by kernel_rfl) (by exact fun _ _ _ h => h) (Or.inl ⟨by kernel_rfl, ?_⟩) (by assumption) ?_
        rotate_left
        · intro w' hSw; (try dsimp only at hSw); go_simp; try with_reducible rfl
        try simp only [Act.put, List.setIfInBounds_toArray, List.set_cons_zero, List.set_cons_succ]
        refine wpAnyH_take (i := 3) (v := ?_) (by simp only [List.getElem?_toArray, List.getElem?_cons_succ, List.getElem?_cons_zero] <;> rfl) (by kernel_rfl) (by kernel_rfl) (by kernel_rfl) (by exact fun _ _ _ h => h) (Or.inl ⟨by kernel_rfl, ?_⟩) (by assumption) ?_
        rotate_left
        · intro w' hSw; (try dsimp only at hSw); go_simp; try with_reducible rfl
        try simp only [Act.put, List.setIfInBounds_toArray, List.set_cons_zero, List.set_cons_succ]
        refine wpAnyH_take (i := 4) (v := ?_) (by simp only [List.getElem?_toArray, List.getElem?_cons_succ, List.getElem?_cons_zero] <;> rfl) (by kernel_rfl) (by kernel_rfl) (by kernel_rfl) (by exact fun _ _ _ h => h) (Or.inl ⟨by kernel_rfl, ?_⟩) (by assumption) ?_
        rotate_left
        · intro w' hSw; (try dsimp only at hSw); go_simp; try with_reducible rfl
        try simp only [Act.put, List.setIfInBounds_toArray, List.set_cons_zero, List.set_cons_succ]
        refine wpAnyH_take (i := 5) (v := ?_) (by simp only [List.getElem?_toArray, List.getElem?_cons_succ, List.getElem?_cons_zero] <;> rfl) (by kernel_rfl) (by kernel_rfl) (by kernel_rfl) (by exact fun _ _ _ h => h) (Or.inl ⟨by kernel_rfl, ?_⟩) (by assumption) ?_
        rotate_left
        · intro w' hSw; (try dsimp only at hSw); go_simp; try with_reducible rfl
        try simp only [Act.put, List.setIfInBounds_toArray, List.set_cons_zero, List.set_cons_succ]
        refine wpAnyH_take (i := 6) (v := ?_) (by simp only [List.getElem?_toArray, List.getElem?_cons_succ, List.getElem?_cons_zero] <;> rfl) (by kernel_rfl) (by kernel_rfl) (by kernel_rfl) (by exact fun _ _ _ h => h) (Or.inl ⟨by kernel_rfl, ?_⟩) (by assumption) ?_
        rotate_left
        · intro w' hSw; (try dsimp only at hSw); go_simp; try with_reducible rfl
        try simp only [Act.put, List.setIfInBounds_toArray, List.set_cons_zero, List.set_cons_succ]
        refine wpAnyH_take (i := 7) (v := ?_) (by simp only [List.getElem?_toArray, List.getElem?_cons_succ, List.getElem?_cons_zero] <;> rfl) (by kernel_rfl) (by kernel_rfl) (by kernel_rfl) (by exact fun _ _ _ h => h) (Or.inl ⟨by kernel_rfl, ?_⟩) (by assumption) ?_
        rotate_left
        · intro w' hSw; (try dsimp only at hSw); go_simp; try with_reducible rfl
        try simp only [Act.put, List.setIfInBounds_toArray, List.set_cons_zero, List.set_cons_succ]
        refine wpAnyH_take (i := 8) (v := ?_) (by simp only [List.getElem?_toArray, List.getElem?_cons_succ, List.getElem?_cons_zero] <;> rfl) (by kernel_rfl) (by kernel_rfl) (by kernel_rfl) (by exact fun _ _ _ h => h) (Or.inl ⟨by kernel_rfl, ?_⟩) (by assumption) ?_
        rotate_left
        · intro w' hSw; (try dsimp only at hSw); go_simp; try with_reducible rfl
        try simp only [Act.put, List.setIfInBounds_toArray, List.set_cons_zero, List.set_cons_succ]
        refine wpAnyH_take (i := 9) (v := ?_) (by simp only [List.getElem?_toArray, List.getElem?_cons_succ, List.getElem?_cons_zero] <;> rfl) (by kernel_rfl) (by kernel_rfl) (by kernel_rfl) (by exact fun _ _ _ h => h) (Or.inl ⟨by kernel_rfl, ?_⟩) (by assumption) ?_
        rotate_left
        · intro w' hSw; (try dsimp only at hSw); go_simp; try with_reducible rfl
        try simp only [Act.put, List.setIfInBounds_toArray, List.set_cons_zero, List.set_cons_succ]
        refine wpAnyH_take (i := 10) (v := ?_) (by simp only [List.getElem?_toArray, List.getElem?_cons_succ, List.getElem?_cons_zero] <;> rfl) (by kernel_rfl) (by kernel_rfl) (by kernel_rfl) (by exact fun _ _ _ h => h) (Or.inl ⟨by kernel_rfl, ?_⟩) (by assumption) ?_
        rotate_left
        · intro w' hSw; (try dsimp only at hSw); go_simp; try with_reducible rfl
        try simp only [Act.put, List.setIfInBounds_toArray, List.set_cons_zero, List.set_cons_succ]
        refine wpAnyH_take (i := 11) (v := ?_) (by simp only [List.getElem?_toArray, List.getElem?_cons_succ, List.getElem?_cons_zero] <;> rfl) (by kernel_rfl) (by kernel_rfl) (by kernel_rfl) (by exact fun _ _ _ h => h) (Or.inl ⟨by kernel_rfl, ?_⟩) (by assumption) ?_
        rotate_left
        · intro w' hSw; (try dsimp only at hSw); go_simp; try with_reducible rfl
        try simp only [Act.put, List.setIfInBounds_toArray, List.set_cons_zero, List.set_cons_succ]
        refine wpAnyH_take (i := 12) (v := ?_) (by simp only [List.getElem?_toArray, List.getElem?_cons_succ, List.getElem?_cons_zero] <;> rfl) (by kernel_rfl) (by kernel_rfl) (by kernel_rfl) (by exact fun _ _ _ h => h) (Or.inl ⟨by kernel_rfl, ?_⟩) (by assumption) ?_
        rotate_left
        · intro w' hSw; (try dsimp only at hSw); go_simp; try with_reducible rfl
        try simp only [Act.put, List.setIfInBounds_toArray, List.set_cons_zero, List.set_cons_succ]
        refine wpAnyH_ready (rs := [1, 13]) (by kernel_rfl) (by simp) (AllReadyH.cons rfl (fun K hK => ?r4x0_2_3_4_5_6_7_8_9_10_11_12_1) (AllReadyH.cons rfl (fun K hK => ?r4x0_2_3_4_5_6_7_8_9_10_11_12_13) AllReadyH.nil))
        case' r4x0_2_3_4_5_6_7_8_9_10_11_12_1 =>
          go_simp
          skip
          refine hK.out _ _ (by exact inferInstance) (fun hHeld => ?_)
          try simp only [Act.put, List.setIfInBounds_toArray, List.set_cons_zero, List.set_cons_succ]
          refine wpAnyH_ready (rs := [13]) (by kernel_rfl) (by simp) (AllReadyH.cons rfl (fun K hK => ?_) AllReadyH.nil)
          go_simp
          (go_at_call 94; (refine (spec_l1Own hrow.out inferInstance hx14).mono ?_; rintro e w3 ⟨A4, n4, c4, f4, rfl, o4, nd4, lo4, L3⟩; have L3b := Later.trans (w := wb) inferInstance L3; have L3x := Later.trans (w := wx) inferInstance L3; have L3k := Later.trans (w := wk) inferInstance L3; have L3r := Later.trans (w := wr) inferInstance L3))
          refine hK.out _ _ (by exact inferInstance) (fun hHeld => ?_)
          try simp only [Act.put, List.setIfInBounds_toArray, List.set_cons_zero, List.set_cons_succ]
          refine wpAnyH_ready (rs := [14]) (by kernel_rfl) (by simp) (AllReadyH.cons rfl (fun K hK => ?_) AllReadyH.nil)
          go_simp
          skip
          refine hK.out _ _ (by exact inferInstance) (fun hHeld => ?_)
          try simp only [Act.put, List.setIfInBounds_toArray, List.set_cons_zero, List.set_cons_succ]
          refine wpAnyH_ready (rs := [15]) (by kernel_rfl) (by simp) (AllReadyH.cons rfl (fun K hK => ?_) AllReadyH.nil)
          refine wp_app_R _ _ 25 rfl Try.underlying25 infoRow (by decide) (w0 := wk) (w1 := wr) rfl HR.out inferInstance inferInstance (by have := hks.out; omega) hbs (o4.later inferInstance) nd4 (fun g hg => Nat.le_trans (Later.size (w := wr) inferInstance) (lo4 g hg)) rfl hlen2.out ?_; intro v' w9 hown' hX9; obtain ⟨A9, n9, c9, rfl⟩ : ∃ A n c, v' = .slice A n c := (by obtain ⟨_, _, h1, _⟩ := hown'; obtain ⟨A, c, e⟩ := own_shape h1; exact ⟨A, _, c, e⟩); haveI hX9i := hX9; haveI hX9b := Later.trans (w := wb) inferInstance hX9; haveI hX9x := Later.trans (w := wx) inferInstance hX9
          refine hK.out _ _ (by exact inferInstance) (fun hHeld => ?_)
          try simp only [Act.put, List.setIfInBounds_toArray, List.set_cons_zero, List.set_cons_succ]
          refine wpAnyH_take (i := 16) (v := ?_) (by simp only [List.getElem?_toArray, List.getElem?_cons_succ, List.getElem?_cons_zero] <;> rfl) (by kernel_rfl) (by kernel_rfl) (by kernel_rfl) (by exact fun _ _ _ h => h) (Or.inl ⟨by kernel_rfl, ?_⟩) (by assumption) ?_
          rotate_left
          · intro w' hSw; (try dsimp only at hSw); go_simp; try with_reducible rfl
          try simp only [Act.put, List.setIfInBounds_toArray, List.set_cons_zero, List.set_cons_succ]
          refine wpAnyH_ready (rs := [17]) (by kernel_rfl) (by simp) (AllReadyH.cons rfl (fun K hK => ?_) AllReadyH.nil)
          go_simp
          skip
          refine hK.out _ _ (by exact inferInstance) (fun hHeld => ?_)
          try simp only [Act.put, List.setIfInBounds_toArray, List.set_cons_zero, List.set_cons_succ]
          refine wpAnyH_done (by kernel_rfl) ?_ _
        case' r4x0_2_3_4_5_6_7_8_9_10_11_12_13 =>
          go_simp
          (go_at_call 94; (refine (spec_l1Own hrow.out inferInstance hx14).mono ?_; rintro e w3 ⟨A4, n4, c4, f4, rfl, o4, nd4, lo4, L3⟩; have L3b := Later.trans (w := wb) inferInstance L3; have L3x := Later.trans (w := wx) inferInstance L3; have L3k := Later.trans (w := wk) inferInstance L3; have L3r := Later.trans (w := wr) inferInstance L3))
          refine hK.out _ _ (by exact inferInstance) (fun hHeld => ?_)
          try simp only [Act.put, List.setIfInBounds_toArray, List.set_cons_zero, List.set_cons_succ]
          refine wpAnyH_ready (rs := [1, 14]) (by kernel_rfl) (by simp) (AllReadyH.cons rfl (fun K hK => ?r4x0_2_3_4_5_6_7_8_9_10_11_12_13_1) (AllReadyH.cons rfl (fun K hK => ?r4x0_2_3_4_5_6_7_8_9_10_11_12_13_14) AllReadyH.nil))
          case' r4x0_2_3_4_5_6_7_8_9_10_11_12_13_1 =>
            go_simp
            skip
            refine hK.out _ _ (by exact inferInstance) (fun hHeld => ?_)
            try simp only [Act.put, List.setIfInBounds_toArray, List.set_cons_zero, List.set_cons_succ]
            refine wpAnyH_ready (rs := [14]) (by kernel_rfl) (by simp) (AllReadyH.cons rfl (fun K hK => ?_) AllReadyH.nil)
            go_simp
            skip
            refine hK.out _ _ (by exact inferInstance) (fun hHeld => ?_)
            try simp only [Act.put, List.setIfInBounds_toArray, List.set_cons_zero, List.set_cons_succ]
            refine wpAnyH_ready (rs := [15]) (by kernel_rfl) (by simp) (AllReadyH.cons rfl (fun K hK => ?_) AllReadyH.nil)
            refine wp_app_R _ _ 25 rfl Try.underlying25 infoRow (by decide) (w0 := wk) (w1 := wr) rfl HR.out inferInstance inferInstance (by have := hks.out; omega) hbs (o4.later inferInstance) nd4 (fun g hg => Nat.le_trans (Later.size (w := wr) inferInstance) (lo4 g hg)) rfl hlen2.out ?_; intro v' w9 hown' hX9; obtain ⟨A9, n9, c9, rfl⟩ : ∃ A n c, v' = .slice A n c := (by obtain ⟨_, _, h1, _⟩ := hown'; obtain ⟨A, c, e⟩ := own_shape h1; exact ⟨A, _, c, e⟩); haveI hX9i := hX9; haveI hX9b := Later.trans (w := wb) inferInstance hX9; haveI hX9x := Later.trans (w := wx) inferInstance hX9
            refine hK.out _ _ (by exact inferInstance) (fun hHeld => ?_)
            try simp only [Act.put, List.setIfInBounds_toArray, List.set_cons_zero, List.set_cons_succ]
            refine wpAnyH_take (i := 16) (v := ?_) (by simp only [List.getElem?_toArray, List.getElem?_cons_succ, List.getElem?_cons_zero] <;> rfl) (by kernel_rfl) (by kernel_rfl) (by kernel_rfl) (by exact fun _ _ _ h => h) (Or.inl ⟨by kernel_rfl, ?_⟩) (by assumption) ?_
            rotate_left
            · intro w' hSw; (try dsimp only at hSw); go_simp; try with_reducible rfl
            try simp only [Act.put, List.setIfInBounds_toArray, List.set_cons_zero, List.set_cons_succ]
            refine wpAnyH_ready (rs := [17]) (by kernel_rfl) (by simp) (AllReadyH.cons rfl (fun K hK => ?_) AllReadyH.nil)
            go_simp
            skip
            refine hK.out _ _ (by exact inferInstance) (fun hHeld => ?_)
            try simp only [Act.put, List.setIfInBounds_toArray, List.set_cons_zero, List.set_cons_succ]
            refine wpAnyH_done (by kernel_rfl) ?_ _
          case' r4x0_2_3_4_5_6_7_8_9_10_11_12_13_14 =>
            go_simp
            skip
            refine hK.out _ _ (by exact inferInstance) (fun hHeld => ?_)
            try simp only [Act.put, List.setIfInBounds_toArray, List.set_cons_zero, List.set_cons_succ]
            refine wpAnyH_ready (rs := [1]) (by kernel_rfl) (by simp) (AllReadyH.cons rfl (fun K hK => ?_) AllReadyH.nil)
            go_simp
            skip
            refine hK.out _ _ (by exact inferInstance) (fun hHeld => ?_)
            try simp only [Act.put, List.setIfInBounds_toArray, List.set_cons_zero, List.set_cons_succ]
            refine wpAnyH_ready (rs := [15]) (by kernel_rfl) (by simp) (AllReadyH.cons rfl (fun K hK => ?_) AllReadyH.nil)
            refine wp_app_R _ _ 25 rfl Try.underlying25 infoRow (by decide) (w0 := wk) (w1 := wr) rfl HR.out inferInstance inferInstance (by have := hks.out; omega) hbs (o4.later inferInstance) nd4 (fun g hg => Nat.le_trans (Later.size (w := wr) inferInstance) (lo4 g hg)) rfl hlen2.out ?_; intro v' w9 hown' hX9; obtain ⟨A9, n9, c9, rfl⟩ : ∃ A n c, v' = .slice A n c := (by obtain ⟨_, _, h1, _⟩ := hown'; obtain ⟨A, c, e⟩ := own_shape h1; exact ⟨A, _, c, e⟩); haveI hX9i := hX9; haveI hX9b := Later.trans (w := wb) inferInstance hX9; haveI hX9x := Later.trans (w := wx) inferInstance hX9
            refine hK.out _ _ (by exact inferInstance) (fun hHeld => ?_)
            try simp only [Act.put, List.setIfInBounds_toArray, List.set_cons_zero, List.set_cons_succ]
            refine wpAnyH_take (i := 16) (v := ?_) (by simp only [List.getElem?_toArray, List.getElem?_cons_succ, List.getElem?_cons_zero] <;> rfl) (by kernel_rfl) (by kernel_rfl) (by kernel_rfl) (by exact fun _ _ _ h => h) (Or.inl ⟨by kernel_rfl, ?_⟩) (by assumption) ?_
            rotate_left
            · intro w' hSw; (try dsimp only at hSw); go_simp; try with_reducible rfl
            try simp only [Act.put, List.setIfInBounds_toArray, List.set_cons_zero, List.set_cons_succ]
            refine wpAnyH_ready (rs := [17]) (by kernel_rfl) (by simp) (AllReadyH.cons rfl (fun K hK => ?_) AllReadyH.nil)
            go_simp
            skip
            refine hK.out _ _ (by exact inferInstance) (fun hHeld => ?_)
            try simp only [Act.put, List.setIfInBounds_toArray, List.set_cons_zero, List.set_cons_succ]
            refine wpAnyH_done (by kernel_rfl) ?_ _
        all_goals
          go_wp2
          go_roundw
          case rel => exact ⟨k + 1, .slice A9 n9 c9, by omega, by go_num, (hGk.later hX9).set_ 4 _, Lib.hid (by have h8 := hown'.set_ (b := gx) hgxl 4 (.slice A9 n9 c9); rw [HXR.out] at h8; exact h8), Lib.hid ((hOk.out.later hX9).setc hgf 4 (.slice A9 n9 c9)), by have := hX9.size; have := hks.out; simp; omega, inferInstance, inferInstance⟩
          case measure => simp [intOf]; omega
      · have hks : k = sn1 := by omega
        subst hks
        have HT : Hid ((turned r m).take k = turned r m) := by show _ = _; rw [List.take_of_length_le (by rw [turned_len, ← hlen.out]; omega)]
        have HR2 := HR.out
        rw [HT.out] at HR2
        obtain ⟨A3, c3, fpp, rfl, ho3, hnd3, hlo3⟩ := HR2.shut
        have HO3 := Lib.hid ho3
        have HN3 := Lib.hid hnd3
        have HL3 := Lib.hid hlo3
        clear HR HR2 ho3 hnd3 hlo3
        obtain ⟨h5a, h5b, h5c, h5d, h5e⟩ := HG.five
        have hB := HBX.later hZ
        have hcr := fun i => hB.cell i
        have hfr := fun i => hB.frozen i
        have hb0 : w.heap.size + 1 < wx.heap.size := HBX.lt
        have hxs : wx.heap.size ≤ wf.heap.size := Later.size (w := wx) (W := wf) inferInstance
        go_wp2
        have HF := ((((hB.set_ 0 (.slice A2 sn0 c2)).set_ 1 (.int .i64 r.Rules.MinRest)).set_ 2 (.int .i64 r.Rules.MaxRow)).set_ 3 (.int .i64 r.Rules.MaxWeek)).set_ 4 (.slice A3 (turned r m).length c3)
        have hr0 := (HF.cell 0).trans (show _ = some (.slice A2 sn0 c2 : Value) from rfl)
        have hr1 := (HF.cell 1).trans (show _ = some (.int .i64 r.Rules.MinRest : Value) from rfl)
        have hr2 := (HF.cell 2).trans (show _ = some (.int .i64 r.Rules.MaxRow : Value) from rfl)
        have hr3 := (HF.cell 3).trans (show _ = some (.int .i64 r.Rules.MaxWeek : Value) from rfl)
        have hr4 := (HF.cell 4).trans (show _ = some (.slice A3 (turned r m).length c3 : Value) from rfl)
        have hb2 : w.heap.size + 1 ∉ f2 := fun hh => by have := HLO.out _ hh; omega
        have hb3 : w.heap.size + 1 ∉ fpp := fun hh => by have := HL3.out _ hh; omega
        refine bodyPost_ret (v := .tuple #[.agg #[.slice A2 sn0 c2, .int .i64 r.Rules.MinRest, .int .i64 r.Rules.MaxRow, .int .i64 r.Rules.MaxWeek, .slice A3 (turned r m).length c3], .bool true]) (by simp [results, Try.results19, go_sem, hr0, hr1, hr2, hr3, hr4]) rfl ?_
        exact ⟨A2, sn0, c2, A3, (turned r m).length, c3, f2, fpp, rfl, ⟨((((HO.out.setc hb2 _ _).setc hb2 _ _).setc hb2 _ _).setc hb2 _ _).setc hb2 _ _, HI.out.1, HI.out.2.1, HI.out.2.2, ((((HO3.out.setc hb3 _ _).setc hb3 _ _).setc hb3 _ _).setc hb3 _ _).setc hb3 _ _⟩, nodup_app HND.out HN3.out HLT.out HL3.out, fun g hg => by
          rcases List.mem_append.1 hg with hg | hg
          · have := HLO.out g hg; omega
          · have := HL3.out g hg; omega, hww.trans inferInstance⟩
end Go.Proofs.Ytbkeccpjcmhhjaa
