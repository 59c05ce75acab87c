/-
 Blocks: the trip of an id; when blocks are valid.
-/
import Derived.Test.YtknhebakebmlcaaGreatFoll
import Derived.Test.YtknhebakebmlcaaGreatKa
import Derived.StillTailTactics
namespace Go.Proofs.YtknhebakebmlcaaGreat
open Go Go.RowKit
set_option linter.unusedVariables false
set_option maxRecDepth 100000
theorem impl_tripWith {w0 w : World} {sA0 : Option Addr} {sn0 sc0 : Nat} {sA1 : Option Addr} {sn1 sc1 : Nat} {sA2 : Option Addr} {sn2 sc2 : Nat} {t : Timetable} (h : TimetableAt w0 sA0 sn0 sc0 sA1 sn1 sc1 sA2 sn2 sc2 t) (hl : Later w0 w) (id : Int) (h0 : 0 ≤ findI t id) (x : Trip) (hxx : tripI t (findI t id) = x) :
  Calls Tryz.prog 114 #[.agg #[.slice sA0 sn0 sc0, .slice sA1 sn1 sc1, .slice sA2 sn2 sc2], .int .i64 id] w (Ret (.agg #[.int .i64 x.Id, .int .i64 x.Line, .int .i64 x.Start]) w) := by
 obtain ⟨i, x0, hi, hx, hxi⟩ := find_at h0
 obtain rfl : x0 = x := hxi.symm.trans hxx
 obtain ⟨wx, hwx⟩ : ∃ wx : World, wx = ((w.alloc (.cells #[.slice sA0 sn0 sc0, .slice sA1 sn1 sc1, .slice sA2 sn2 sc2] 44)).alloc (.cells #[.int .i64 0, .int .i64 0, .int .i64 0] 82)) := ⟨_, rfl⟩
 have HBX : Blk wx (w.heap.size + 1) 82 #[.int .i64 0, .int .i64 0, .int .i64 0] := by rw [hwx]; exact heap_new (by simp)
 have hT := h.l_Trips.later hl
 have HB0 : ∀ W [Later (w.alloc (.cells #[.slice sA0 sn0 sc0, .slice sA1 sn1 sc1, .slice sA2 sn2 sc2] 44)) W] (j : Nat), W.cell? ⟨w.heap.size, j, none⟩ = #[.slice sA0 sn0 sc0, .slice sA1 sn1 sc1, .slice sA2 sn2 sc2][j]? := Later.boxes (t := 44) (fr := (0, 0)) (heap_new (by simp; try omega)); obtain ⟨wb, hwb⟩ : ∃ wb : World, wb = (w.alloc (.cells #[.slice sA0 sn0 sc0, .slice sA1 sn1 sc1, .slice sA2 sn2 sc2] 44)) := ⟨_, rfl⟩; haveI hbW : Later wb (w.alloc (.cells #[.slice sA0 sn0 sc0, .slice sA1 sn1 sc1, .slice sA2 sn2 sc2] 44)) := (by rw [hwb]; exact Later.rfl_); haveI hww : Later w wb := (by rw [hwb]; infer_instance); rw [← hwb] at HB0; have hbE := Lib.hid (congrArg (fun x : World => x.heap.size) hwb); clear hwb
 have hwb0 := hl.trans hww
 replace hT := hT.later hww
 have hsl := hT.le
 haveI hxW : Later wx ((w.alloc (.cells #[.slice sA0 sn0 sc0, .slice sA1 sn1 sc1, .slice sA2 sn2 sc2] 44)).alloc (.cells #[.int .i64 0, .int .i64 0, .int .i64 0] 82)) := by rw [hwx]; exact Later.rfl_
 haveI hbx : Later wb wx := by rw [hwx]; infer_instance
 have hzb : wb.heap.size ≤ w.heap.size + 1 := by have := hbE.out; simp at this; omega
 haveI hN : New wb (w.heap.size + 1) := ⟨hzb⟩
 have hin : i < sn2 := by rw [hT.len]; exact (List.getElem?_eq_some_iff.1 hx).1
 obtain ⟨b1, o1, x', rfl, hx', hc0, hc1, hc2, _⟩ := Trips.at_ hT hin
 obtain rfl : x' = x0 := Option.some.inj (hx'.out.symm.trans hx)
 have H := Lib.hid h
 have HI := Lib.hid hi
 clear h hT hi hx hx' hxi hxx hwx h0
 go_enter Tryz.func114, Tryz.ntmps114
 go_wp2_with fail
 go_region_held3 (fun w' => Later wb w') (exact inferInstance) (first | (go_at_call 33; refine (impl_tripIndex H.out (hwb0.trans inferInstance) id).mono ?_; rw [HI.out]; rintro e w1 ⟨rfl, L1⟩; have X1 := Later.trans (w := wb) inferInstance L1; have Z1 := Later.trans (w := wx) inferInstance L1; have hB := HBX.later Z1; have hcr := (fun i => hB.cell i); have hfr := (fun i => hB.frozen i)))
 go_wp2
 have HF := ((hB.set_ 0 (.int .i64 x'.Id)).set_ 1 (.int .i64 x'.Line)).set_ 2 (.int .i64 x'.Start)
 have hr0 := (HF.cell 0).trans (show _ = some (.int .i64 x'.Id : Value) from rfl)
 have hr1 := (HF.cell 1).trans (show _ = some (.int .i64 x'.Line : Value) from rfl)
 have hr2 := (HF.cell 2).trans (show _ = some (.int .i64 x'.Start : Value) from rfl)
 refine bodyPost_ret (v := .agg #[.int .i64 x'.Id, .int .i64 x'.Line, .int .i64 x'.Start]) (by simp [results, Tryz.results114, go_sem, hr0, hr1, hr2]) rfl ?_
 exact ⟨rfl, hww.trans inferInstance⟩
theorem nodup_len {l : List Int} {n : Nat} (h : l.Nodup) (hb : ∀ y, y ∈ l → 0 ≤ y ∧ y < n) : l.length ≤ n := by
 induction n generalizing l with
 | zero =>
  cases l with
  | nil => simp
  | cons y l => have := hb y (by simp); omega
 | succ n ih =>
  by_cases hm : (n : Int) ∈ l
  ·have h1 : (l.erase (n : Int)).Nodup := h.erase _
   have h2 := ih h1 (fun y hy => by
    have h3 := (List.Nodup.mem_erase_iff h).1 hy
    have := hb y h3.2
    have := h3.1
    omega)
   have := List.length_erase_of_mem hm
   omega
  ·have := ih h (fun y hy => by
    have h3 := hb y hy
    have : y ≠ n := fun e => hm (e ▸ hy)
    omega)
   omega
theorem find_neg {t : Timetable} (h : TimeFacts t) {id : Int} (hid : id ≤ 0) : findI t id < 0 := by
 by_cases h0 : 0 ≤ findI t id
 ·have := findI_id h0
  have := (tripI_facts h h0 (findI_bd t id).2).id
  omega
 ·omega
structure SeenOk (t : Timetable) (seen : List Int) : Prop where
 nodup : seen.Nodup
 bd : ∀ y, y ∈ seen → 0 ≤ y ∧ y < t.Trips.length
theorem SeenOk.nil (t : Timetable) : SeenOk t [] := ⟨by simp, by simp⟩
theorem SeenOk.len {t : Timetable} {seen : List Int} (h : SeenOk t seen) (tf : TimeFacts t) : seen.length ≤ 12 := by
 have := nodup_len h.nodup h.bd
 have := tf.len
 omega
theorem SeenOk.snoc {t : Timetable} {seen : List Int} (h : SeenOk t seen) {v : Int} (h0 : 0 ≤ v) (h1 : v < t.Trips.length) (hn : v ∉ seen) : SeenOk t (seen ++ [v]) := by
 refine ⟨?_, fun y hy => ?_⟩
 ·rw [List.nodup_append]
  exact ⟨h.nodup, by simp, fun a ha b hb e => by simp at hb; subst hb; subst e; exact hn ha⟩
 ·rcases List.mem_append.1 hy with hy | hy
  ·exact h.bd y hy
  ·simp at hy; subst hy; exact ⟨h0, h1⟩
/-- Which trips were seen, as an array of twelve. -/
def UsedAt (w : World) (g : Nat) (t : TypeId) (seen : List Int) : Prop := ∃ cs : Array Value, Blk w g t cs ∧ cs.size = 12 ∧ ∀ j : Nat, j < 12 → cs[j]? = some (.bool (decide ((j : Int) ∈ seen)))
theorem UsedAt.later {w w' : World} {g : Nat} {t : TypeId} {seen : List Int} (h : UsedAt w g t seen) (hl : Later w w') : UsedAt w' g t seen := by
 obtain ⟨cs, hb, hs, hc⟩ := h
 exact ⟨cs, hb.later hl, hs, hc⟩
theorem UsedAt.cell {w : World} {g : Nat} {t : TypeId} {seen : List Int} (h : UsedAt w g t seen) {j : Nat} (hj : j < 12) : ∀ W [Later w W], W.cell? ⟨g, j, none⟩ = some (.bool (decide ((j : Int) ∈ seen))) := by
 obtain ⟨cs, hb, hs, hc⟩ := h
 intro W hW
 rw [(hb.later hW).cell]
 exact hc j hj
theorem UsedAt.frozen {w : World} {g : Nat} {t : TypeId} {seen : List Int} (h : UsedAt w g t seen) (j : Nat) : ∀ W [Later w W], W.frozen? ⟨g, j, none⟩ = false := by
 obtain ⟨cs, hb, hs, hc⟩ := h
 intro W hW
 exact (hb.later hW).frozen j
theorem UsedAt.set {w : World} {g : Nat} {t : TypeId} {seen : List Int} (h : UsedAt w g t seen) {j : Nat} (hj : j < 12) : UsedAt (w.setCell ⟨g, j, none⟩ (.bool true)) g t (seen ++ [(j : Int)]) := by
 obtain ⟨cs, hb, hs, hc⟩ := h
 refine ⟨_, hb.set_ j (.bool true), by simpa using hs, fun i hi => ?_⟩
 by_cases e : i = j
 ·subst e
  rw [set_eq _ (by omega)]
  simp
 ·rw [set_ne _ e, hc i hi]
  have : ¬ ((i : Int) = (j : Int)) := by omega
  simp [this]
theorem used_start : ∀ j : Nat, j < 12 → (#[.bool false, .bool false, .bool false, .bool false, .bool false, .bool false, .bool false, .bool false, .bool false, .bool false, .bool false, .bool false] : Array Value)[j]? = some (.bool (decide ((j : Int) ∈ ([] : List Int))))
 | 0, _ => by simp
 | 1, _ => by simp
 | 2, _ => by simp
 | 3, _ => by simp
 | 4, _ => by simp
 | 5, _ => by simp
 | 6, _ => by simp
 | 7, _ => by simp
 | 8, _ => by simp
 | 9, _ => by simp
 | 10, _ => by simp
 | 11, _ => by simp
 | n + 12, h => by omega
/-- What comes of the rest of a block and the blocks behind it. -/
def rowThen (t : Timetable) (f : Fleet) (l : List Int) (prev : Int) (seen : List Int) (bs : List (List Int)) (id0 : Int) : Option (List Int) :=
 match rowGo t f l prev seen with
 | none => none
 | some s => blkGo t f bs (some id0) s
def rowBad (t : Timetable) (f : Fleet) (id prev : Int) (seen : List Int) : Prop := findI t id < 0 ∨ findI t id ∈ seen ∨ (0 ≤ prev ∧ canF t f (tripI t prev) (tripI t (findI t id)) = false)
theorem rowThen_bad {t : Timetable} {f : Fleet} {id : Int} {l : List Int} {prev : Int} {seen : List Int} {bs : List (List Int)} {id0 : Int} (h : rowBad t f id prev seen) : rowThen t f (id :: l) prev seen bs id0 = none := by
 unfold rowBad at h; unfold rowThen; simp only [rowGo]; rw [if_pos h]
theorem rowThen_good {t : Timetable} {f : Fleet} {id : Int} {l : List Int} {prev : Int} {seen : List Int} {bs : List (List Int)} {id0 : Int} (h : ¬ rowBad t f id prev seen) : rowThen t f (id :: l) prev seen bs id0 = rowThen t f l (findI t id) (seen ++ [findI t id]) bs id0 := by
 unfold rowBad at h; unfold rowThen; simp only [rowGo]; rw [if_neg h]
theorem blkGo_row {t : Timetable} {f : Fleet} {id : Int} {l : List Int} {bs : List (List Int)} {prev : Option Int} {seen : List Int} (h : notUp prev id = false) : blkGo t f ((id :: l) :: bs) prev seen = rowThen t f (id :: l) (-1) seen bs id := by
 simp only [blkGo]; rw [if_neg (by simp [h])]; rfl
theorem okBlk_none {t : Timetable} {f : Fleet} {bs : List (List Int)} (h : blkGo t f bs none [] = none) : okBlk t f bs = false := by unfold okBlk; rw [h]
theorem okBlk_some {t : Timetable} {f : Fleet} {bs : List (List Int)} {s : List Int} (h : blkGo t f bs none [] = some s) : okBlk t f bs = decide (s.length = t.Trips.length) := by unfold okBlk; rw [h]
/-- The block before the k-th begins with p. -/
def Before (bs : List (List Int)) (k : Nat) (p : Option Int) : Prop := (k = 0 ∧ p = none) ∨ ∃ m v r, k = m + 1 ∧ bs[m]? = some (v :: r) ∧ p = some v
/-- The trip before the j-th of a block. -/
def PrevAt (t : Timetable) (x : List Int) (j : Nat) (prev : Int) (seen : List Int) : Prop := (j = 0 ∧ prev = -1) ∨ ∃ m v, j = m + 1 ∧ x[m]? = some v ∧ prev = findI t v ∧ 0 ≤ findI t v ∧ findI t v ∈ seen
set_option maxHeartbeats 8000000 in
theorem impl_areBlocks {w0 w w2 w3 : World} {sA0 : Option Addr} {sn0 sc0 : Nat} {sA1 : Option Addr} {sn1 sc1 : Nat} {sA2 : Option Addr} {sn2 sc2 : Nat} {t : Timetable} (h : TimetableAt w0 sA0 sn0 sc0 sA1 sn1 sc1 sA2 sn2 sc2 t) (hl : Later w0 w) {qA0 : Option Addr} {qn0 qc0 : Nat} {f : Fleet} (h2 : FleetAt w2 qA0 qn0 qc0 f) (hl2 : Later w2 w) {bA : Option Addr} {bn bc : Nat} {bs : List (List Int)} (h3 : Sl 1 (rSl 1 rInt) w3 bA bn bc bs) (hl3 : Later w3 w) (tf : TimeFacts t) (ff : FleetFacts t.Network.Stops.length f) :
  Calls Tryz.prog 93 #[.agg #[.slice sA0 sn0 sc0, .slice sA1 sn1 sc1, .slice sA2 sn2 sc2], .agg #[.slice qA0 qn0 qc0, .int .i64 f.Turn], .slice bA bn bc] w (Ret (.bool (okBlk t f bs)) w) := by
 have hT := h.l_Trips.later hl
 have hB := h3.later hl3
 have HB0 : ∀ W [Later ((w.alloc (.cells #[.slice sA0 sn0 sc0, .slice sA1 sn1 sc1, .slice sA2 sn2 sc2] 44)).alloc (.cells #[.slice qA0 qn0 qc0, .int .i64 f.Turn] 46)) W] (j : Nat), W.cell? ⟨w.heap.size, j, none⟩ = #[.slice sA0 sn0 sc0, .slice sA1 sn1 sc1, .slice sA2 sn2 sc2][j]? := Later.boxes (t := 44) (fr := (0, 0)) ((heap_old (by simp; try omega)).trans (heap_new (by simp; try omega))); have HB1 : ∀ W [Later ((w.alloc (.cells #[.slice sA0 sn0 sc0, .slice sA1 sn1 sc1, .slice sA2 sn2 sc2] 44)).alloc (.cells #[.slice qA0 qn0 qc0, .int .i64 f.Turn] 46)) W] (j : Nat), W.cell? ⟨w.heap.size + 1, j, none⟩ = #[.slice qA0 qn0 qc0, .int .i64 f.Turn][j]? := Later.boxes (t := 46) (fr := (0, 0)) (heap_new (by simp; try omega)); obtain ⟨wb, hwb⟩ : ∃ wb : World, wb = ((w.alloc (.cells #[.slice sA0 sn0 sc0, .slice sA1 sn1 sc1, .slice sA2 sn2 sc2] 44)).alloc (.cells #[.slice qA0 qn0 qc0, .int .i64 f.Turn] 46)) := ⟨_, rfl⟩; haveI hbW : Later wb ((w.alloc (.cells #[.slice sA0 sn0 sc0, .slice sA1 sn1 sc1, .slice sA2 sn2 sc2] 44)).alloc (.cells #[.slice qA0 qn0 qc0, .int .i64 f.Turn] 46)) := (by rw [hwb]; exact Later.rfl_); haveI hww : Later w wb := (by rw [hwb]; infer_instance); rw [← hwb] at HB0; rw [← hwb] at HB1; have hbE := Lib.hid (congrArg (fun x : World => x.heap.size) hwb); clear hwb
 have hwb0 := hl.trans hww
 have hwb2 := hl2.trans hww
 replace hT := hT.later hww
 replace hB := hB.later hww
 have hsl := hT.le
 have hbl := hB.le
 have Hbl := Lib.hid hB.len
 have Htl := Lib.hid hT.len
 have ht12 : sn2 ≤ 12 := by rw [hT.len]; exact tf.len
 have hzb : wb.heap.size ≤ w.heap.size + 1 + 1 := by have := hbE.out; simp at this; omega
 haveI hN : New wb (w.heap.size + 1 + 1) := ⟨hzb⟩
 have hzb2 : wb.heap.size = w.heap.size + 1 + 1 := by have := hbE.out; simp at this; omega
 have H := Lib.hid h
 have H2 := Lib.hid h2
 have HT := Lib.hid hT
 have TF := Lib.hid tf
 have FF := Lib.hid ff
 obtain ⟨tyA, htyA⟩ : ∃ q : TypeId, q = 149 := ⟨_, rfl⟩
 clear h h2 h3 tf ff hT
 go_enter Tryz.func93, Tryz.ntmps93
 go_wp2_with fail
 go_loopw [8, 9, 17] (fun no lo i wr => ∃ (k : Nat) (seen : List Int) (prev : Option Int), k ≤ bn ∧ i = .int .i64 k ∧ no = .int .i64 seen.length ∧ lo = .int .i64 (prev.getD 0) ∧ Hid (blkGo t f (bs.drop k) prev seen = blkGo t f bs none []) ∧ Hid (Before bs k prev) ∧ Hid (SeenOk t seen) ∧ Hid (UsedAt wr (w.heap.size + 1 + 1) 149 seen) ∧ Later wb wr) (fun _ _ i _ => bn - (intOf i).toNat)
 case atStart => exact ⟨0, [], none, by omega, rfl, rfl, rfl, rfl, .inl ⟨rfl, rfl⟩, SeenOk.nil t, ⟨_, heap_new (by simp), by simp, used_start⟩, inferInstance⟩
 case round =>
  obtain ⟨k, seen, prev, hk, rfl, rfl, rfl, HF, HB, HS, HU, hX⟩ := hrel
  by_cases hlt : k < bn
  ·obtain ⟨b, o, A1, n1, c1, x, rfl, hx, hc0, hi⟩ := Sl.row_ hB hlt
   have hn1 := hi.le
   have Hxl := Lib.hid hi.len
   have HF1 : Hid (blkGo t f (x :: bs.drop (k + 1)) prev seen = blkGo t f bs none []) := by show _ = _; rw [← HF.out, drop_at hx.out]
   have HX := Lib.hid hx.out
   clear HF hx
   cases x with
   | nil =>
    obtain rfl : n1 = 0 := Hxl.out
    have HR : Hid (okBlk t f bs = false) := okBlk_none (HF1.out.symm.trans rfl)
    clear hi
    go_wp2
    go_ret
    exact ⟨ret_bool HR.out.symm, hww.trans inferInstance⟩
   | cons id0 l =>
    have hn1p : 0 < n1 := by rw [Hxl.out]; simp
    have e0 := (beqi_f (show ¬ (n1 : Int) = 0 by omega)).1
    obtain ⟨b2, o2, v0, rfl, hv0, hd0, _⟩ := Ints.at_ hi hn1p
    simp only [Nat.add_zero] at hd0
    obtain rfl : id0 = v0 := by simpa using hv0.out
    clear hv0
    by_cases c : id0 ≤ prev.getD 0
    ·have HL : blkGo t f ((id0 :: l) :: bs.drop (k + 1)) prev seen = none := by
      cases prev with
      | none => rw [blkGo_row rfl]; exact rowThen_bad (.inl (find_neg TF.out (by simpa using c)))
      | some p => simp only [blkGo]; rw [if_pos (by simpa [notUp] using c)]
     have HR : Hid (okBlk t f bs = false) := okBlk_none (HF1.out.symm.trans HL)
     clear HL hi
     go_wp2
     go_ret
     exact ⟨ret_bool HR.out.symm, hww.trans inferInstance⟩
    ·have hnu : notUp prev id0 = false := by
      cases prev with
      | none => rfl
      | some p => simp only [notUp, decide_eq_false_iff_not]; simpa using c
     have HF2 : Hid (rowThen t f (id0 :: l) (-1) seen (bs.drop (k + 1)) id0 = blkGo t f bs none []) := by show _ = _; rw [← blkGo_row hnu]; exact HF1.out
     clear HF1 hnu
     go_wp2_with fail
     go_loopw [8, 36] (fun no i ws => ∃ (j : Nat) (sn : List Int) (pv : Int), j ≤ n1 ∧ i = .int .i64 j ∧ no = .int .i64 sn.length ∧ Hid (rowThen t f ((id0 :: l).drop j) pv sn (bs.drop (k + 1)) id0 = blkGo t f bs none []) ∧ Hid (PrevAt t (id0 :: l) j pv sn) ∧ Hid (SeenOk t sn) ∧ Hid (UsedAt ws (w.heap.size + 1 + 1) 149 sn) ∧ Later wb ws) (fun _ i _ => n1 - (intOf i).toNat)
     case atStart => exact ⟨0, seen, -1, by omega, rfl, rfl, HF2, .inl ⟨rfl, rfl⟩, HS, HU.out.later (inferInstance : Later wr _), inferInstance⟩
     case round =>
      obtain ⟨j, sn, pv, hj, rfl, rfl, HG, HP, HS2, HU2, hY⟩ := hrel
      have hsn := HS2.out.len TF.out
      by_cases hjt : j < n1
      ·obtain ⟨b4, o4, v, hA4, hv, hcv, _⟩ := Ints.at_ hi hjt
       cases hA4
       have HG1 : Hid (rowThen t f (v :: (id0 :: l).drop (j + 1)) pv sn (bs.drop (k + 1)) id0 = blkGo t f bs none []) := by show _ = _; rw [← HG.out, drop_at hv.out]
       have HV0 := Lib.hid hv.out
       clear HG hv
       by_cases cA : findI t v < 0
       ·have HL := rowThen_bad (t := t) (f := f) (id := v) (l := (id0 :: l).drop (j + 1)) (prev := pv) (seen := sn) (bs := bs.drop (k + 1)) (id0 := id0) (.inl cA)
        have HR : Hid (okBlk t f bs = false) := okBlk_none (HG1.out.symm.trans HL)
        clear HL HG1
        go_wp2_with (go_at_call 33; refine (impl_tripIndex H.out (hwb0.trans inferInstance) v).mono ?_; skip; rintro e w6 ⟨rfl, L6⟩; have X6 := Later.trans (w := wb) inferInstance L6; have Z6 := Later.trans (w := wr) inferInstance L6)
        go_wp2_with fail
        refine gO (S := (fun w' => Later wb w' ∧ Later wr w')) (by kernel_rfl) (by exact ⟨inferInstance, inferInstance⟩) (fun _ _ _ _ _ h => h) (fun hHeld hZq => ?_)
        refine gT 0 rfl (by kernel_rfl) (by intro w' hSw; go_simp <;> rfl) hZq hHeld ?_; simp only [Act.put, sA, sZ, sS]
        refine gT 1 rfl (by kernel_rfl) (by intro w' hSw; go_simp <;> rfl) hZq hHeld ?_; simp only [Act.put, sA, sZ, sS]
        refine gT 2 rfl (by kernel_rfl) (by intro w' hSw; go_simp <;> rfl) hZq hHeld ?_; simp only [Act.put, sA, sZ, sS]
        refine gU 3 rfl (by kernel_rfl) hZq hHeld ?_; simp only [Act.put, sA, sZ, sS]
        refine gU 4 rfl (by kernel_rfl) hZq hHeld ?_; simp only [Act.put, sA, sZ, sS]
        refine gU 5 rfl (by kernel_rfl) hZq hHeld ?_; simp only [Act.put, sA, sZ, sS]
        refine gT 6 rfl (by kernel_rfl) (by intro w' hSw; go_simp <;> rfl) hZq hHeld ?_; simp only [Act.put, sA, sZ, sS]
        refine gT 7 rfl (by kernel_rfl) (by intro w' hSw; go_simp <;> rfl) hZq hHeld ?_; simp only [Act.put, sA, sZ, sS]
        refine gU 8 rfl (by kernel_rfl) hZq hHeld ?_; simp only [Act.put, sA, sZ, sS]
        refine gU 9 rfl (by kernel_rfl) hZq hHeld ?_; simp only [Act.put, sA, sZ, sS]
        refine gU 10 rfl (by kernel_rfl) hZq hHeld ?_; simp only [Act.put, sA, sZ, sS]
        refine gU 11 rfl (by kernel_rfl) hZq hHeld ?_; simp only [Act.put, sA, sZ, sS]
        refine gU 12 rfl (by kernel_rfl) hZq hHeld ?_; simp only [Act.put, sA, sZ, sS]
        refine gU 13 rfl (by kernel_rfl) hZq hHeld ?_; simp only [Act.put, sA, sZ, sS]
        refine gU 14 rfl (by kernel_rfl) hZq hHeld ?_; simp only [Act.put, sA, sZ, sS]
        refine gU 15 rfl (by kernel_rfl) hZq hHeld ?_; simp only [Act.put, sA, sZ, sS]
        refine gU 16 rfl (by kernel_rfl) hZq hHeld ?_; simp only [Act.put, sA, sZ, sS]
        refine gU 17 rfl (by kernel_rfl) hZq hHeld ?_; simp only [Act.put, sA, sZ, sS]
        refine gU 18 rfl (by kernel_rfl) hZq hHeld ?_; simp only [Act.put, sA, sZ, sS]
        refine gU 19 rfl (by kernel_rfl) hZq hHeld ?_; simp only [Act.put, sA, sZ, sS]
        refine gU 20 rfl (by kernel_rfl) hZq hHeld ?_; simp only [Act.put, sA, sZ, sS]
        refine gU 21 rfl (by kernel_rfl) hZq hHeld ?_; simp only [Act.put, sA, sZ, sS]
        refine gU 22 rfl (by kernel_rfl) hZq hHeld ?_; simp only [Act.put, sA, sZ, sS]
        refine gU 23 rfl (by kernel_rfl) hZq hHeld ?_; simp only [Act.put, sA, sZ, sS]
        refine gU 24 rfl (by kernel_rfl) hZq hHeld ?_; simp only [Act.put, sA, sZ, sS]
        refine gU 25 rfl (by kernel_rfl) hZq hHeld ?_; simp only [Act.put, sA, sZ, sS]
        refine gU 26 rfl (by kernel_rfl) hZq hHeld ?_; simp only [Act.put, sA, sZ, sS]
        refine gU 27 rfl (by kernel_rfl) hZq hHeld ?_; simp only [Act.put, sA, sZ, sS]
        refine gT 28 rfl (by kernel_rfl) (by intro w' hSw; go_simp <;> rfl) hZq hHeld ?_; simp only [Act.put, sA, sZ, sS]
        refine wpAnyH_done (by kernel_rfl) ?_ _
        go_wp2
        go_ret
        exact ⟨ret_bool HR.out.symm, hww.trans inferInstance⟩
       obtain ⟨i, x2, hfi, hx2, hxi⟩ := find_at (t := t) (a := v) (by omega)
       have hin : i < sn2 := by rw [Htl.out]; exact (List.getElem?_eq_some_iff.1 hx2).1
       have hi12 : i < 12 := by omega
       have hi12' : (i : Int) < 12 := by omega
       have HI := Lib.hid hfi
       have hfz := HU2.out.frozen i
       have hu := HU2.out.cell hi12
       by_cases cB : (i : Int) ∈ sn
       ·rw [decide_eq_true cB] at hu
        have HL := rowThen_bad (t := t) (f := f) (id := v) (l := (id0 :: l).drop (j + 1)) (prev := pv) (seen := sn) (bs := bs.drop (k + 1)) (id0 := id0) (.inr (.inl (by rw [hfi]; exact cB)))
        clear cA cB hfi hx2 hxi
        have HR : Hid (okBlk t f bs = false) := okBlk_none (HG1.out.symm.trans HL)
        clear HL HG1
        go_wp2_with (go_at_call 33; refine (impl_tripIndex H.out (hwb0.trans inferInstance) v).mono ?_; (rw [HI.out]); rintro e w6 ⟨rfl, L6⟩; have X6 := Later.trans (w := wb) inferInstance L6; have Z6 := Later.trans (w := wr) inferInstance L6)
        go_wp2_with fail
        refine gO (S := (fun w' => Later wb w' ∧ Later wr w')) (by kernel_rfl) (by exact ⟨inferInstance, inferInstance⟩) (fun _ _ _ _ _ h => h) (fun hHeld hZq => ?_)
        refine gT 0 rfl (by kernel_rfl) (by intro w' hSw; go_simp <;> rfl) hZq hHeld ?_; simp only [Act.put, sA, sZ, sS]
        refine gT 1 rfl (by kernel_rfl) (by intro w' hSw; go_simp <;> rfl) hZq hHeld ?_; simp only [Act.put, sA, sZ, sS]
        refine gT 2 rfl (by kernel_rfl) (by intro w' hSw; go_simp <;> rfl) hZq hHeld ?_; simp only [Act.put, sA, sZ, sS]
        refine gT 3 rfl (by kernel_rfl) (by intro w' hSw; go_simp <;> rfl) hZq hHeld ?_; simp only [Act.put, sA, sZ, sS]
        refine gT 4 rfl (by kernel_rfl) (by intro w' hSw; go_simp <;> rfl) hZq hHeld ?_; simp only [Act.put, sA, sZ, sS]
        refine gT 5 rfl (by kernel_rfl) (by intro w' hSw; go_simp <;> rfl) hZq hHeld ?_; simp only [Act.put, sA, sZ, sS]
        refine gT 6 rfl (by kernel_rfl) (by intro w' hSw; go_simp <;> rfl) hZq hHeld ?_; simp only [Act.put, sA, sZ, sS]
        refine gT 7 rfl (by kernel_rfl) (by intro w' hSw; go_simp <;> rfl) hZq hHeld ?_; simp only [Act.put, sA, sZ, sS]
        refine gU 8 rfl (by kernel_rfl) hZq hHeld ?_; simp only [Act.put, sA, sZ, sS]
        refine gU 9 rfl (by kernel_rfl) hZq hHeld ?_; simp only [Act.put, sA, sZ, sS]
        refine gU 10 rfl (by kernel_rfl) hZq hHeld ?_; simp only [Act.put, sA, sZ, sS]
        refine gU 11 rfl (by kernel_rfl) hZq hHeld ?_; simp only [Act.put, sA, sZ, sS]
        refine gU 12 rfl (by kernel_rfl) hZq hHeld ?_; simp only [Act.put, sA, sZ, sS]
        refine gU 13 rfl (by kernel_rfl) hZq hHeld ?_; simp only [Act.put, sA, sZ, sS]
        refine gU 14 rfl (by kernel_rfl) hZq hHeld ?_; simp only [Act.put, sA, sZ, sS]
        refine gU 15 rfl (by kernel_rfl) hZq hHeld ?_; simp only [Act.put, sA, sZ, sS]
        refine gU 16 rfl (by kernel_rfl) hZq hHeld ?_; simp only [Act.put, sA, sZ, sS]
        refine gU 17 rfl (by kernel_rfl) hZq hHeld ?_; simp only [Act.put, sA, sZ, sS]
        refine gU 18 rfl (by kernel_rfl) hZq hHeld ?_; simp only [Act.put, sA, sZ, sS]
        refine gU 19 rfl (by kernel_rfl) hZq hHeld ?_; simp only [Act.put, sA, sZ, sS]
        refine gU 20 rfl (by kernel_rfl) hZq hHeld ?_; simp only [Act.put, sA, sZ, sS]
        refine gU 21 rfl (by kernel_rfl) hZq hHeld ?_; simp only [Act.put, sA, sZ, sS]
        refine gU 22 rfl (by kernel_rfl) hZq hHeld ?_; simp only [Act.put, sA, sZ, sS]
        refine gU 23 rfl (by kernel_rfl) hZq hHeld ?_; simp only [Act.put, sA, sZ, sS]
        refine gU 24 rfl (by kernel_rfl) hZq hHeld ?_; simp only [Act.put, sA, sZ, sS]
        refine gU 25 rfl (by kernel_rfl) hZq hHeld ?_; simp only [Act.put, sA, sZ, sS]
        refine gU 26 rfl (by kernel_rfl) hZq hHeld ?_; simp only [Act.put, sA, sZ, sS]
        refine gU 27 rfl (by kernel_rfl) hZq hHeld ?_; simp only [Act.put, sA, sZ, sS]
        refine gT 28 rfl (by kernel_rfl) (by intro w' hSw; go_simp <;> rfl) hZq hHeld ?_; simp only [Act.put, sA, sZ, sS]
        refine wpAnyH_done (by kernel_rfl) ?_ _
        go_wp2
        go_ret
        exact ⟨ret_bool HR.out.symm, hww.trans inferInstance⟩
       rw [decide_eq_false cB] at hu
       have HSN : Hid (SeenOk t (sn ++ [(i : Int)])) := HS2.out.snoc (by omega) (by have := Htl.out; omega) cB
       have HP2 : Hid (PrevAt t (id0 :: l) (j + 1) i (sn ++ [(i : Int)])) := .inr ⟨j, v, rfl, HV0.out, hfi.symm, by omega, by rw [hfi]; simp⟩
       rcases HP.out with ⟨hj0, hpv⟩ | ⟨m, u, hjm, hu0, hpv, hu1, hu2⟩
       ·have HG2 : Hid (rowThen t f ((id0 :: l).drop (j + 1)) i (sn ++ [(i : Int)]) (bs.drop (k + 1)) id0 = blkGo t f bs none []) := by
         show _ = _
         rw [← HG1.out, rowThen_good (by unfold rowBad; rw [hfi, hpv]; rintro (h | h | h) <;> first | omega | exact cB h), hfi]
        have hj0' : ¬ (0 < (j : Int)) := by omega
        have hj0n : ¬ (0 < j) := by omega
        have hj0d : decide (0 < j) = false := decide_eq_false hj0n
        clear cA cB hfi hx2 hxi HG1 hj0 hpv
        go_wp2_with (go_at_call 33; refine (impl_tripIndex H.out (hwb0.trans inferInstance) v).mono ?_; (rw [HI.out]); rintro e w6 ⟨rfl, L6⟩; have X6 := Later.trans (w := wb) inferInstance L6; have Z6 := Later.trans (w := wr) inferInstance L6)
        go_wp2_with fail
        refine gO (S := (fun w' => Later wb w' ∧ Later wr w')) (by kernel_rfl) (by exact ⟨inferInstance, inferInstance⟩) (fun _ _ _ _ _ h => h) (fun hHeld hZq => ?_)
        refine gT 0 rfl (by kernel_rfl) (by intro w' hSw; go_simp <;> rfl) hZq hHeld ?_; simp only [Act.put, sA, sZ, sS]
        refine gT 1 rfl (by kernel_rfl) (by intro w' hSw; go_simp <;> rfl) hZq hHeld ?_; simp only [Act.put, sA, sZ, sS]
        refine gT 2 rfl (by kernel_rfl) (by intro w' hSw; go_simp <;> rfl) hZq hHeld ?_; simp only [Act.put, sA, sZ, sS]
        refine gT 3 rfl (by kernel_rfl) (by intro w' hSw; go_simp <;> rfl) hZq hHeld ?_; simp only [Act.put, sA, sZ, sS]
        refine gT 4 rfl (by kernel_rfl) (by intro w' hSw; go_simp <;> rfl) hZq hHeld ?_; simp only [Act.put, sA, sZ, sS]
        refine gT 5 rfl (by kernel_rfl) (by intro w' hSw; go_simp <;> rfl) hZq hHeld ?_; simp only [Act.put, sA, sZ, sS]
        refine gT 6 rfl (by kernel_rfl) (by intro w' hSw; go_simp <;> rfl) hZq hHeld ?_; simp only [Act.put, sA, sZ, sS]
        refine gT 7 rfl (by kernel_rfl) (by intro w' hSw; go_simp <;> rfl) hZq hHeld ?_; simp only [Act.put, sA, sZ, sS]
        refine gT 8 rfl (by kernel_rfl) (by intro w' hSw; go_simp <;> rfl) hZq hHeld ?_; simp only [Act.put, sA, sZ, sS]
        refine gT 9 rfl (by kernel_rfl) (by intro w' hSw; go_simp <;> rfl) hZq hHeld ?_; simp only [Act.put, sA, sZ, sS]
        refine gT 10 rfl (by kernel_rfl) (by intro w' hSw; go_simp <;> rfl) hZq hHeld ?_; simp only [Act.put, sA, sZ, sS]
        refine gU 11 rfl (by kernel_rfl) hZq hHeld ?_; simp only [Act.put, sA, sZ, sS]
        refine gU 12 rfl (by kernel_rfl) hZq hHeld ?_; simp only [Act.put, sA, sZ, sS]
        refine gU 13 rfl (by kernel_rfl) hZq hHeld ?_; simp only [Act.put, sA, sZ, sS]
        refine gU 14 rfl (by kernel_rfl) hZq hHeld ?_; simp only [Act.put, sA, sZ, sS]
        refine gU 15 rfl (by kernel_rfl) hZq hHeld ?_; simp only [Act.put, sA, sZ, sS]
        refine gU 16 rfl (by kernel_rfl) hZq hHeld ?_; simp only [Act.put, sA, sZ, sS]
        refine gU 17 rfl (by kernel_rfl) hZq hHeld ?_; simp only [Act.put, sA, sZ, sS]
        refine gU 18 rfl (by kernel_rfl) hZq hHeld ?_; simp only [Act.put, sA, sZ, sS]
        refine gU 19 rfl (by kernel_rfl) hZq hHeld ?_; simp only [Act.put, sA, sZ, sS]
        refine gU 20 rfl (by kernel_rfl) hZq hHeld ?_; simp only [Act.put, sA, sZ, sS]
        refine gU 21 rfl (by kernel_rfl) hZq hHeld ?_; simp only [Act.put, sA, sZ, sS]
        refine gU 22 rfl (by kernel_rfl) hZq hHeld ?_; simp only [Act.put, sA, sZ, sS]
        refine gU 23 rfl (by kernel_rfl) hZq hHeld ?_; simp only [Act.put, sA, sZ, sS]
        refine gU 24 rfl (by kernel_rfl) hZq hHeld ?_; simp only [Act.put, sA, sZ, sS]
        refine gU 25 rfl (by kernel_rfl) hZq hHeld ?_; simp only [Act.put, sA, sZ, sS]
        refine gU 26 rfl (by kernel_rfl) hZq hHeld ?_; simp only [Act.put, sA, sZ, sS]
        refine gT 27 rfl (by kernel_rfl) (by intro w' hSw; go_simp <;> rfl) hZq hHeld ?_; simp only [Act.put, sA, sZ, sS]
        refine gT 28 rfl (by kernel_rfl) (by intro w' hSw; go_simp <;> rfl) hZq hHeld ?_; simp only [Act.put, sA, sZ, sS]
        refine wpAnyH_done (by kernel_rfl) ?_ _
        go_wp2
        go_roundw
        case rel => exact ⟨j + 1, sn ++ [(i : Int)], i, by omega, by go_num, by rw [List.length_append]; go_num, HG2, HP2, HSN, (HU2.out.later (inferInstance : Later wr _)).set hi12, inferInstance⟩
        case measure => simp [intOf]; omega
       ·obtain ⟨i0, y0, hi0, hy0, hyi⟩ := find_at (t := t) (a := u) hu1
        have hmn : m < n1 := by omega
        obtain ⟨b5, o5, u', hA5, hu', hcu, _⟩ := Ints.at_ hi hmn
        cases hA5
        obtain rfl : u' = u := Option.some.inj (hu'.out.symm.trans hu0)
        obtain ⟨b6, o6, x2', rfl, hx2', hf0, hf1, hf2, _⟩ := Trips.at_ HT.out hin
        obtain rfl : x2' = x2 := Option.some.inj (hx2'.out.symm.trans hx2)
        have TX := Lib.hid (TF.out.trip i x2' hx2)
        have TY := Lib.hid (TF.out.trip i0 y0 hy0)
        have HV := Lib.hid hu1
        have HY0 := Lib.hid hyi
        have hwm : IntKind.i64.wrap (((m + 1 : Nat) : Int) - 1) = (m : Int) := by rw [IntKind.wrap_i64]; omega
        have hwm2 : IntKind.i64.wrap ((m : Int) + 1 - 1) = (m : Int) := by rw [IntKind.wrap_i64]; omega
        have hwm3 : IntKind.i64.wrap (m : Int) = (m : Int) := by rw [IntKind.wrap_i64]; omega
        subst hjm
        have hj0' : 0 < ((m + 1 : Nat) : Int) := by omega
        have hj0n : 0 < (m : Int) + 1 := by omega
        by_cases cF : canF t f y0 x2' = true
        ·have HG2 : Hid (rowThen t f ((id0 :: l).drop (m + 1 + 1)) i (sn ++ [(i : Int)]) (bs.drop (k + 1)) id0 = blkGo t f bs none []) := by
          show _ = _
          rw [← HG1.out, rowThen_good (by
           unfold rowBad; rw [hxi, hfi, hpv, hyi, cF]
           rintro (h | h | h)
           ·omega
           ·exact cB h
           ·exact absurd h.2 (by simp)), hfi]
         clear cA cB hfi hx2 hxi HG1 hpv hu0 hu1 hu2 hi0 hy0 hyi hu' hx2'
         go_wp2_with (go_at_call 33; refine (impl_tripIndex H.out (hwb0.trans inferInstance) v).mono ?_; (rw [HI.out]); rintro e w6 ⟨rfl, L6⟩; have X6 := Later.trans (w := wb) inferInstance L6; have Z6 := Later.trans (w := wr) inferInstance L6)
         go_wp2_with fail
         refine gO (S := (fun w' => Later wb w' ∧ Later wr w')) (by kernel_rfl) (by exact ⟨inferInstance, inferInstance⟩) (fun _ _ _ _ _ h => h) (fun hHeld hZq => ?_)
         refine gT 0 rfl (by kernel_rfl) (by intro w' hSw; go_simp <;> rfl) hZq hHeld ?_; simp only [Act.put, sA, sZ, sS]
         refine gT 1 rfl (by kernel_rfl) (by intro w' hSw; go_simp <;> rfl) hZq hHeld ?_; simp only [Act.put, sA, sZ, sS]
         refine gT 2 rfl (by kernel_rfl) (by intro w' hSw; go_simp <;> rfl) hZq hHeld ?_; simp only [Act.put, sA, sZ, sS]
         refine gT 3 rfl (by kernel_rfl) (by intro w' hSw; go_simp <;> rfl) hZq hHeld ?_; simp only [Act.put, sA, sZ, sS]
         refine gT 4 rfl (by kernel_rfl) (by intro w' hSw; go_simp <;> rfl) hZq hHeld ?_; simp only [Act.put, sA, sZ, sS]
         refine gT 5 rfl (by kernel_rfl) (by intro w' hSw; go_simp <;> rfl) hZq hHeld ?_; simp only [Act.put, sA, sZ, sS]
         refine gT 6 rfl (by kernel_rfl) (by intro w' hSw; go_simp <;> rfl) hZq hHeld ?_; simp only [Act.put, sA, sZ, sS]
         refine gT 7 rfl (by kernel_rfl) (by intro w' hSw; go_simp <;> rfl) hZq hHeld ?_; simp only [Act.put, sA, sZ, sS]
         refine gT 8 rfl (by kernel_rfl) (by intro w' hSw; go_simp <;> rfl) hZq hHeld ?_; simp only [Act.put, sA, sZ, sS]
         refine gT 9 rfl (by kernel_rfl) (by intro w' hSw; go_simp <;> rfl) hZq hHeld ?_; simp only [Act.put, sA, sZ, sS]
         refine gT 10 rfl (by kernel_rfl) (by intro w' hSw; go_simp <;> rfl) hZq hHeld ?_; simp only [Act.put, sA, sZ, sS]
         refine gT 11 rfl (by kernel_rfl) (by intro w' hSw; go_simp <;> rfl) hZq hHeld ?_; simp only [Act.put, sA, sZ, sS]
         refine gT 12 rfl (by kernel_rfl) (by intro w' hSw; go_simp <;> rfl) hZq hHeld ?_; simp only [Act.put, sA, sZ, sS]
         refine gT 13 rfl (by kernel_rfl) (by intro w' hSw; go_simp <;> rfl) hZq hHeld ?_; simp only [Act.put, sA, sZ, sS]
         refine gT 14 rfl (by kernel_rfl) (by intro w' hSw; go_simp <;> rfl) hZq hHeld ?_; simp only [Act.put, sA, sZ, sS]
         refine gT 15 rfl (by kernel_rfl) (by intro w' hSw; go_simp <;> rfl) hZq hHeld ?_; simp only [Act.put, sA, sZ, sS]
         refine gT 16 rfl (by kernel_rfl) (by intro w' hSw; go_simp <;> rfl) hZq hHeld ?_; simp only [Act.put, sA, sZ, sS]
         refine gT 17 rfl (by kernel_rfl) (by intro w' hSw; go_simp <;> rfl) hZq hHeld ?_; simp only [Act.put, sA, sZ, sS]
         refine gT 18 rfl (by kernel_rfl) (by intro w' hSw; go_simp <;> rfl) hZq hHeld ?_; simp only [Act.put, sA, sZ, sS]
         refine gT 20 rfl (by kernel_rfl) (by intro w' hSw; go_simp <;> rfl) hZq hHeld ?_; simp only [Act.put, sA, sZ, sS]
         refine gT 21 rfl (by kernel_rfl) (by intro w' hSw; go_simp <;> rfl) hZq hHeld ?_; simp only [Act.put, sA, sZ, sS]
         refine gT 22 rfl (by kernel_rfl) (by intro w' hSw; go_simp <;> rfl) hZq hHeld ?_; simp only [Act.put, sA, sZ, sS]
         refine gT 23 rfl (by kernel_rfl) (by intro w' hSw; go_simp <;> rfl) hZq hHeld ?_; simp only [Act.put, sA, sZ, sS]
         refine gT 24 rfl (by kernel_rfl) (by intro w' hSw; go_simp <;> rfl) hZq hHeld ?_; simp only [Act.put, sA, sZ, sS]
         refine gE 19 rfl (by kernel_rfl) (fun K hK => ?_)
         go_simp
         (go_at_call 114; refine (impl_tripWith H.out (hwb0.trans inferInstance) _ HV.out y0 HY0.out).mono ?_; rintro e w4 ⟨rfl, L4⟩; have X4 := Later.trans (w := wb) inferInstance L4; have Z4 := Later.trans (w := wr) inferInstance L4)
         refine hK.out _ _ (by exact ⟨inferInstance, inferInstance⟩) (fun hHeld => ?_)
         try simp only [Act.put, sA, sZ, sS]
         refine gE 25 rfl (by kernel_rfl) (fun K hK => ?_)
         go_simp
         (go_at_call 113; refine (impl_canFollow H.out (hwb0.trans inferInstance) H2.out (hwb2.trans inferInstance) TF.out.net FF.out _ _ TY.out TX.out).mono ?_; rintro e w5 ⟨rfl, L5⟩; have X5 := Later.trans (w := wb) inferInstance L5; have Z5 := Later.trans (w := wr) inferInstance L5)
         refine hK.out _ _ (by exact ⟨inferInstance, inferInstance⟩) (fun hHeld => ?_)
         try simp only [Act.put, sA, sZ, sS]
         refine gT 26 rfl (by kernel_rfl) (by intro w' hSw; go_simp <;> rfl) hZq hHeld ?_; simp only [Act.put, sA, sZ, sS]
         refine gT 27 rfl (by kernel_rfl) (by intro w' hSw; go_simp <;> rfl) hZq hHeld ?_; simp only [Act.put, sA, sZ, sS]
         refine gT 28 rfl (by kernel_rfl) (by intro w' hSw; go_simp <;> rfl) hZq hHeld ?_; simp only [Act.put, sA, sZ, sS]
         refine wpAnyH_done (by kernel_rfl) ?_ _
         clear hwm hwm2 hwm3
         go_wp2
         go_roundw
         case rel => exact ⟨m + 1 + 1, sn ++ [(i : Int)], i, by omega, by go_num, by rw [List.length_append]; go_num, HG2, HP2, HSN, (HU2.out.later (inferInstance : Later wr _)).set hi12, inferInstance⟩
         case measure => simp [intOf]; omega
        ·have cG : canF t f y0 x2' = false := by simpa using cF
         have HL := rowThen_bad (t := t) (f := f) (id := v) (l := (id0 :: l).drop (m + 1 + 1)) (prev := pv) (seen := sn) (bs := bs.drop (k + 1)) (id0 := id0) (.inr (.inr ⟨by omega, by rw [hxi, hpv, hyi]; exact cG⟩))
         clear cA cB cF hfi hx2 hxi hpv hu0 hu1 hu2 hi0 hy0 hyi hu' hx2'
         have HR : Hid (okBlk t f bs = false) := okBlk_none (HG1.out.symm.trans HL)
         clear HL HG1
         go_wp2_with (go_at_call 33; refine (impl_tripIndex H.out (hwb0.trans inferInstance) v).mono ?_; (rw [HI.out]); rintro e w6 ⟨rfl, L6⟩; have X6 := Later.trans (w := wb) inferInstance L6; have Z6 := Later.trans (w := wr) inferInstance L6)
         go_wp2_with fail
         refine gO (S := (fun w' => Later wb w' ∧ Later wr w')) (by kernel_rfl) (by exact ⟨inferInstance, inferInstance⟩) (fun _ _ _ _ _ h => h) (fun hHeld hZq => ?_)
         refine gT 0 rfl (by kernel_rfl) (by intro w' hSw; go_simp <;> rfl) hZq hHeld ?_; simp only [Act.put, sA, sZ, sS]
         refine gT 1 rfl (by kernel_rfl) (by intro w' hSw; go_simp <;> rfl) hZq hHeld ?_; simp only [Act.put, sA, sZ, sS]
         refine gT 2 rfl (by kernel_rfl) (by intro w' hSw; go_simp <;> rfl) hZq hHeld ?_; simp only [Act.put, sA, sZ, sS]
         refine gT 3 rfl (by kernel_rfl) (by intro w' hSw; go_simp <;> rfl) hZq hHeld ?_; simp only [Act.put, sA, sZ, sS]
         refine gT 4 rfl (by kernel_rfl) (by intro w' hSw; go_simp <;> rfl) hZq hHeld ?_; simp only [Act.put, sA, sZ, sS]
         refine gT 5 rfl (by kernel_rfl) (by intro w' hSw; go_simp <;> rfl) hZq hHeld ?_; simp only [Act.put, sA, sZ, sS]
         refine gT 6 rfl (by kernel_rfl) (by intro w' hSw; go_simp <;> rfl) hZq hHeld ?_; simp only [Act.put, sA, sZ, sS]
         refine gT 7 rfl (by kernel_rfl) (by intro w' hSw; go_simp <;> rfl) hZq hHeld ?_; simp only [Act.put, sA, sZ, sS]
         refine gT 8 rfl (by kernel_rfl) (by intro w' hSw; go_simp <;> rfl) hZq hHeld ?_; simp only [Act.put, sA, sZ, sS]
         refine gT 9 rfl (by kernel_rfl) (by intro w' hSw; go_simp <;> rfl) hZq hHeld ?_; simp only [Act.put, sA, sZ, sS]
         refine gT 10 rfl (by kernel_rfl) (by intro w' hSw; go_simp <;> rfl) hZq hHeld ?_; simp only [Act.put, sA, sZ, sS]
         refine gT 11 rfl (by kernel_rfl) (by intro w' hSw; go_simp <;> rfl) hZq hHeld ?_; simp only [Act.put, sA, sZ, sS]
         refine gT 12 rfl (by kernel_rfl) (by intro w' hSw; go_simp <;> rfl) hZq hHeld ?_; simp only [Act.put, sA, sZ, sS]
         refine gT 13 rfl (by kernel_rfl) (by intro w' hSw; go_simp <;> rfl) hZq hHeld ?_; simp only [Act.put, sA, sZ, sS]
         refine gT 14 rfl (by kernel_rfl) (by intro w' hSw; go_simp <;> rfl) hZq hHeld ?_; simp only [Act.put, sA, sZ, sS]
         refine gT 15 rfl (by kernel_rfl) (by intro w' hSw; go_simp <;> rfl) hZq hHeld ?_; simp only [Act.put, sA, sZ, sS]
         refine gT 16 rfl (by kernel_rfl) (by intro w' hSw; go_simp <;> rfl) hZq hHeld ?_; simp only [Act.put, sA, sZ, sS]
         refine gT 17 rfl (by kernel_rfl) (by intro w' hSw; go_simp <;> rfl) hZq hHeld ?_; simp only [Act.put, sA, sZ, sS]
         refine gT 18 rfl (by kernel_rfl) (by intro w' hSw; go_simp <;> rfl) hZq hHeld ?_; simp only [Act.put, sA, sZ, sS]
         refine gT 20 rfl (by kernel_rfl) (by intro w' hSw; go_simp <;> rfl) hZq hHeld ?_; simp only [Act.put, sA, sZ, sS]
         refine gT 21 rfl (by kernel_rfl) (by intro w' hSw; go_simp <;> rfl) hZq hHeld ?_; simp only [Act.put, sA, sZ, sS]
         refine gT 22 rfl (by kernel_rfl) (by intro w' hSw; go_simp <;> rfl) hZq hHeld ?_; simp only [Act.put, sA, sZ, sS]
         refine gT 23 rfl (by kernel_rfl) (by intro w' hSw; go_simp <;> rfl) hZq hHeld ?_; simp only [Act.put, sA, sZ, sS]
         refine gT 24 rfl (by kernel_rfl) (by intro w' hSw; go_simp <;> rfl) hZq hHeld ?_; simp only [Act.put, sA, sZ, sS]
         refine gE 19 rfl (by kernel_rfl) (fun K hK => ?_)
         go_simp
         (go_at_call 114; refine (impl_tripWith H.out (hwb0.trans inferInstance) _ HV.out y0 HY0.out).mono ?_; rintro e w4 ⟨rfl, L4⟩; have X4 := Later.trans (w := wb) inferInstance L4; have Z4 := Later.trans (w := wr) inferInstance L4)
         refine hK.out _ _ (by exact ⟨inferInstance, inferInstance⟩) (fun hHeld => ?_)
         try simp only [Act.put, sA, sZ, sS]
         refine gE 25 rfl (by kernel_rfl) (fun K hK => ?_)
         go_simp
         (go_at_call 113; refine (impl_canFollow H.out (hwb0.trans inferInstance) H2.out (hwb2.trans inferInstance) TF.out.net FF.out _ _ TY.out TX.out).mono ?_; rintro e w5 ⟨rfl, L5⟩; have X5 := Later.trans (w := wb) inferInstance L5; have Z5 := Later.trans (w := wr) inferInstance L5)
         refine hK.out _ _ (by exact ⟨inferInstance, inferInstance⟩) (fun hHeld => ?_)
         try simp only [Act.put, sA, sZ, sS]
         refine gT 26 rfl (by kernel_rfl) (by intro w' hSw; go_simp <;> rfl) hZq hHeld ?_; simp only [Act.put, sA, sZ, sS]
         refine gT 27 rfl (by kernel_rfl) (by intro w' hSw; go_simp <;> rfl) hZq hHeld ?_; simp only [Act.put, sA, sZ, sS]
         refine gT 28 rfl (by kernel_rfl) (by intro w' hSw; go_simp <;> rfl) hZq hHeld ?_; simp only [Act.put, sA, sZ, sS]
         refine wpAnyH_done (by kernel_rfl) ?_ _
         clear hwm hwm2 hwm3
         go_wp2
         go_ret
         exact ⟨ret_bool HR.out.symm, hww.trans inferInstance⟩
      ·have HF3 : Hid (blkGo t f (bs.drop (k + 1)) (some id0) sn = blkGo t f bs none []) := by
        have h3 := HG.out
        rw [List.drop_eq_nil_of_le (by have := Hxl.out; omega)] at h3
        exact h3
       clear HG
       go_wp2
       go_roundw
       case rel => exact ⟨k + 1, sn, some id0, by omega, by go_num, rfl, rfl, HF3, .inr ⟨k, id0, l, rfl, HX.out, rfl⟩, HS2, HU2, inferInstance⟩
       case measure => simp [intOf]; omega
  ·have HF1 : Hid (okBlk t f bs = decide (seen.length = t.Trips.length)) := by
    have h3 := HF.out
    rw [List.drop_eq_nil_of_le (by have := Hbl.out; omega)] at h3
    exact okBlk_some h3.symm
   clear HF
   go_wp2
   go_ret
   exact ⟨ret_bool (by rw [HF1.out, Htl.out, Bool.eq_iff_iff]; simp <;> omega), hww.trans inferInstance⟩
end Go.Proofs.YtknhebakebmlcaaGreat
