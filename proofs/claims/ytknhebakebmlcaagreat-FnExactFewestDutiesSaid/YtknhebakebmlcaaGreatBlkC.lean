/-
 Blocks: when they are valid, in the reference.
-/
import Derived.Test.YtknhebakebmlcaaGreatBlkB
import Derived.Test.YtknhebakebmlcaaGreatKc
namespace Go.Proofs.YtknhebakebmlcaaGreat
open Go Go.RowKit
set_option linter.unusedVariables false
set_option maxRecDepth 100000
theorem spec_l1Has {w0 w : World} {A : Option Addr} {n c : Nat} {l : List Int} (h : Ints w0 A n c l) (hl : Later w0 w) (v : Int) :
  Calls Tryz.prog 49 #[.slice A n c, .int .i64 v] w (Ret (.bool (decide (v ∈ l))) w) := by
 replace h := h.later hl
 have hn := h.le
 have Hl := Lib.hid h.len
 go_enter Tryz.func49, Tryz.ntmps49
 go_wp2
 go_loopw [5] (fun i wr => ∃ k : Nat, k ≤ n ∧ i = .int .i64 k ∧ Hid (v ∈ l.drop k ↔ v ∈ l) ∧ Later w wr) (fun i _ => n - (intOf i).toNat)
 case atStart => exact ⟨0, by omega, rfl, by show _ ↔ _; simp, inferInstance⟩
 case round =>
  obtain ⟨k, hk, rfl, HF, hX⟩ := hrel
  by_cases hlt : k < n
  ·obtain ⟨b, o, y, rfl, hy, hc, hi⟩ := Ints.at_ h hlt
   have HF1 := HF.out
   rw [drop_at hy.out] at HF1
   by_cases e : y = v
   ·have e1 := (beqi_t e).1
    have HE : Hid (decide (v ∈ l) = true) := by show _ = _; rw [decide_eq_true_eq, ← HF1, e]; simp
    clear HF HF1 e hy hi
    go_wp2
    go_ret
    exact ⟨ret_bool HE.out.symm, inferInstance⟩
   ·have e1 := (beqi_f e).1
    have HF2 : Hid (v ∈ l.drop (k + 1) ↔ v ∈ l) := by
     show _ ↔ _
     rw [← HF1, List.mem_cons]
     exact ⟨fun h => .inr h, fun h => h.resolve_left fun h => e h.symm⟩
    clear HF HF1 e hy hi
    go_wp2
    go_roundw
    case rel => exact ⟨k + 1, by omega, by go_num, HF2, inferInstance⟩
    case measure => simp [intOf]; omega
  ·have HE : Hid (decide (v ∈ l) = false) := by
    show _ = _
    have h3 := HF.out
    rw [List.drop_eq_nil_of_le (by have := Hl.out; omega)] at h3
    rw [decide_eq_false_iff_not, ← h3]; simp
   clear HF
   go_wp2
   go_ret
   exact ⟨ret_bool HE.out.symm, inferInstance⟩
set_option maxHeartbeats 8000000 in
theorem spec_l11Blocks {w0 w w2 w3 : World} {sA0 : Option Addr} {sn0 sc0 : Nat} {sA1 : Option Addr} {sn1 sc1 : Nat} {sA2 : Option Addr} {sn2 sc2 : Nat} {t : Timetable} (h : TimetableAt w0 sA0 sn0 sc0 sA1 sn1 sc1 sA2 sn2 sc2 t) (hl : Later w0 w) {qA0 : Option Addr} {qn0 qc0 : Nat} {f : Fleet} (h2 : FleetAt w2 qA0 qn0 qc0 f) (hl2 : Later w2 w) {bA : Option Addr} {bn bc : Nat} {bs : List (List Int)} (h3 : Sl 1 (rSl 1 rInt) w3 bA bn bc bs) (hl3 : Later w3 w) (tf : TimeFacts t) (ff : FleetFacts t.Network.Stops.length f) :
  Calls Tryz.prog 85 #[.agg #[.slice sA0 sn0 sc0, .slice sA1 sn1 sc1, .slice sA2 sn2 sc2], .agg #[.slice qA0 qn0 qc0, .int .i64 f.Turn], .slice bA bn bc] w (Ret (.bool (okBlk t f bs)) w) := by
 have hT := h.l_Trips.later hl
 have hB := h3.later hl3
 have HB0 : ∀ W [Later ((w.alloc (.cells #[.slice sA0 sn0 sc0, .slice sA1 sn1 sc1, .slice sA2 sn2 sc2] 44)).alloc (.cells #[.slice qA0 qn0 qc0, .int .i64 f.Turn] 46)) W] (j : Nat), W.cell? ⟨w.heap.size, j, none⟩ = #[.slice sA0 sn0 sc0, .slice sA1 sn1 sc1, .slice sA2 sn2 sc2][j]? := Later.boxes (t := 44) (fr := (0, 0)) ((heap_old (by simp; try omega)).trans (heap_new (by simp; try omega))); have HB1 : ∀ W [Later ((w.alloc (.cells #[.slice sA0 sn0 sc0, .slice sA1 sn1 sc1, .slice sA2 sn2 sc2] 44)).alloc (.cells #[.slice qA0 qn0 qc0, .int .i64 f.Turn] 46)) W] (j : Nat), W.cell? ⟨w.heap.size + 1, j, none⟩ = #[.slice qA0 qn0 qc0, .int .i64 f.Turn][j]? := Later.boxes (t := 46) (fr := (0, 0)) (heap_new (by simp; try omega)); obtain ⟨wb, hwb⟩ : ∃ wb : World, wb = ((w.alloc (.cells #[.slice sA0 sn0 sc0, .slice sA1 sn1 sc1, .slice sA2 sn2 sc2] 44)).alloc (.cells #[.slice qA0 qn0 qc0, .int .i64 f.Turn] 46)) := ⟨_, rfl⟩; haveI hbW : Later wb ((w.alloc (.cells #[.slice sA0 sn0 sc0, .slice sA1 sn1 sc1, .slice sA2 sn2 sc2] 44)).alloc (.cells #[.slice qA0 qn0 qc0, .int .i64 f.Turn] 46)) := (by rw [hwb]; exact Later.rfl_); haveI hww : Later w wb := (by rw [hwb]; infer_instance); rw [← hwb] at HB0; rw [← hwb] at HB1; have hbE := Lib.hid (congrArg (fun x : World => x.heap.size) hwb); clear hwb
 have hwb0 := hl.trans hww
 have hwb2 := hl2.trans hww
 replace hT := hT.later hww
 replace hB := hB.later hww
 have hsl := hT.le
 have hbl := hB.le
 have Hbl := Lib.hid hB.len
 have Htl := Lib.hid hT.len
 have hbs : wb.heap.size ≤ w.heap.size + 2 := by have := hbE.out; simp at this; omega
 have hbs2 : w.heap.size + 2 ≤ wb.heap.size := by have := hbE.out; simp at this; omega
 have H := Lib.hid h
 have H2 := Lib.hid h2
 have TF := Lib.hid tf
 have FF := Lib.hid ff
 clear h h2 h3 tf ff hT
 go_enter Tryz.func85, Tryz.ntmps85
 go_wp2_with fail
 go_loopw [7, 8] (fun ov i wr => ∃ (k : Nat) (seen : List Int) (prev : Option Int), k ≤ bn ∧ i = .int .i64 k ∧ Hid (blkGo t f (bs.drop k) prev seen = blkGo t f bs none []) ∧ Hid (Before bs k prev) ∧ Hid (SeenOk t seen) ∧ Hid (wr.ownsRow (w.heap.size + 2) 3 1 ov seen.length (seen.map (Value.int .i64))) ∧ Later wb wr) (fun _ i _ => bn - (intOf i).toNat)
 case atStart => exact ⟨0, [], none, by omega, rfl, rfl, .inl ⟨rfl, rfl⟩, SeenOk.nil t, Lib.hid (ownsRow_later (by simpa using World.ownsRow_lit (base := w.heap.size + 2) (e := 3) (size := 1) ((w.alloc (.cells #[.slice sA0 sn0 sc0, .slice sA1 sn1 sc1, .slice sA2 sn2 sc2] 44)).alloc (.cells #[.slice qA0 qn0 qc0, .int .i64 f.Turn] 46)) #[] 0 (by simp; try omega) (by simp [maxLen]) rfl) (inferInstance : Later (((w.alloc (.cells #[.slice sA0 sn0 sc0, .slice sA1 sn1 sc1, .slice sA2 sn2 sc2] 44)).alloc (.cells #[.slice qA0 qn0 qc0, .int .i64 f.Turn] 46)).alloc (.cells #[] 3)) _)), inferInstance⟩
 case round =>
  obtain ⟨k, seen, prev, hk, rfl, HF, HB, HS, hown, hX⟩ := hrel
  by_cases hlt : k < bn
  ·have HBA := Lib.hid hB
   obtain ⟨b, o, A1, n1, c1, x, rfl, hx, hc0, hi⟩ := Sl.row_ hB hlt
   have hn1 := hi.le
   have Hxl := Lib.hid hi.len
   have HF1 : Hid (blkGo t f (x :: bs.drop (k + 1)) prev seen = blkGo t f bs none []) := by show _ = _; rw [← HF.out, drop_at hx.out]
   have HX := Lib.hid hx.out
   clear HF hx
   cases x with
   | nil =>
    obtain rfl : n1 = 0 := Hxl.out
    have HR : Hid (okBlk t f bs = false) := okBlk_none (HF1.out.symm.trans rfl)
    clear hi
    go_wp2_with fail
    refine gO (S := (fun w' => Later wb w' ∧ Later wr w')) (by kernel_rfl) (by exact ⟨inferInstance, inferInstance⟩) (fun _ _ _ _ _ h => h) (fun hHeld hZq => ?_)
    refine gT 0 rfl (by kernel_rfl) (by intro w' hSw; go_simp <;> rfl) hZq hHeld ?_; simp only [Act.put, sA, sZ, sS]
    refine gT 1 rfl (by kernel_rfl) (by intro w' hSw; go_simp <;> rfl) hZq hHeld ?_; simp only [Act.put, sA, sZ, sS]
    refine gT 2 rfl (by kernel_rfl) (by intro w' hSw; go_simp <;> rfl) hZq hHeld ?_; simp only [Act.put, sA, sZ, sS]
    refine gT 3 rfl (by kernel_rfl) (by intro w' hSw; go_simp <;> rfl) hZq hHeld ?_; simp only [Act.put, sA, sZ, sS]
    refine gT 4 rfl (by kernel_rfl) (by intro w' hSw; go_simp <;> rfl) hZq hHeld ?_; simp only [Act.put, sA, sZ, sS]
    refine gT 5 rfl (by kernel_rfl) (by intro w' hSw; go_simp <;> rfl) hZq hHeld ?_; simp only [Act.put, sA, sZ, sS]
    refine gT 6 rfl (by kernel_rfl) (by intro w' hSw; go_simp <;> rfl) hZq hHeld ?_; simp only [Act.put, sA, sZ, sS]
    refine gU 7 rfl (by kernel_rfl) hZq hHeld ?_; simp only [Act.put, sA, sZ, sS]
    refine gU 8 rfl (by kernel_rfl) hZq hHeld ?_; simp only [Act.put, sA, sZ, sS]
    refine gU 9 rfl (by kernel_rfl) hZq hHeld ?_; simp only [Act.put, sA, sZ, sS]
    refine gU 10 rfl (by kernel_rfl) hZq hHeld ?_; simp only [Act.put, sA, sZ, sS]
    refine gU 11 rfl (by kernel_rfl) hZq hHeld ?_; simp only [Act.put, sA, sZ, sS]
    refine gU 12 rfl (by kernel_rfl) hZq hHeld ?_; simp only [Act.put, sA, sZ, sS]
    refine gU 13 rfl (by kernel_rfl) hZq hHeld ?_; simp only [Act.put, sA, sZ, sS]
    refine gU 14 rfl (by kernel_rfl) hZq hHeld ?_; simp only [Act.put, sA, sZ, sS]
    refine gU 15 rfl (by kernel_rfl) hZq hHeld ?_; simp only [Act.put, sA, sZ, sS]
    refine gU 16 rfl (by kernel_rfl) hZq hHeld ?_; simp only [Act.put, sA, sZ, sS]
    refine gU 17 rfl (by kernel_rfl) hZq hHeld ?_; simp only [Act.put, sA, sZ, sS]
    refine gU 18 rfl (by kernel_rfl) hZq hHeld ?_; simp only [Act.put, sA, sZ, sS]
    refine gU 19 rfl (by kernel_rfl) hZq hHeld ?_; simp only [Act.put, sA, sZ, sS]
    refine gU 20 rfl (by kernel_rfl) hZq hHeld ?_; simp only [Act.put, sA, sZ, sS]
    refine gU 21 rfl (by kernel_rfl) hZq hHeld ?_; simp only [Act.put, sA, sZ, sS]
    refine gU 22 rfl (by kernel_rfl) hZq hHeld ?_; simp only [Act.put, sA, sZ, sS]
    refine gU 23 rfl (by kernel_rfl) hZq hHeld ?_; simp only [Act.put, sA, sZ, sS]
    refine gU 24 rfl (by kernel_rfl) hZq hHeld ?_; simp only [Act.put, sA, sZ, sS]
    refine gT 25 rfl (by kernel_rfl) (by intro w' hSw; go_simp <;> rfl) hZq hHeld ?_; simp only [Act.put, sA, sZ, sS]
    refine wpAnyH_done (by kernel_rfl) ?_ _
    go_wp2
    go_ret
    exact ⟨ret_bool HR.out.symm, hww.trans inferInstance⟩
   | cons id0 l =>
    have hn1p : 0 < n1 := by rw [Hxl.out]; simp
    have e0 := (beqi_f (show ¬ (n1 : Int) = 0 by omega)).1
    obtain ⟨b2, o2, v0, rfl, hv0, hd0, _⟩ := Ints.at_ hi hn1p
    simp only [Nat.add_zero] at hd0
    obtain rfl : id0 = v0 := by simpa using hv0.out
    clear hv0
    rcases HB.out with ⟨hk0, hp0⟩ | ⟨m, p, r, hkm, hbm, hpm⟩
    ·have hnu : notUp prev id0 = false := by rw [hp0]; rfl
     have hk0' : ¬ (0 < (k : Int)) := by omega
     have hk0n : ¬ (0 < k) := by omega
     have hk0d : decide (0 < k) = false := decide_eq_false hk0n
     clear hk0 hp0
     go_wp2_with fail
     refine gO (S := (fun w' => Later wb w' ∧ Later wr w')) (by kernel_rfl) (by exact ⟨inferInstance, inferInstance⟩) (fun _ _ _ _ _ h => h) (fun hHeld hZq => ?_)
     refine gT 0 rfl (by kernel_rfl) (by intro w' hSw; go_simp <;> rfl) hZq hHeld ?_; simp only [Act.put, sA, sZ, sS]
     refine gT 1 rfl (by kernel_rfl) (by intro w' hSw; go_simp <;> rfl) hZq hHeld ?_; simp only [Act.put, sA, sZ, sS]
     refine gT 2 rfl (by kernel_rfl) (by intro w' hSw; go_simp <;> rfl) hZq hHeld ?_; simp only [Act.put, sA, sZ, sS]
     refine gT 3 rfl (by kernel_rfl) (by intro w' hSw; go_simp <;> rfl) hZq hHeld ?_; simp only [Act.put, sA, sZ, sS]
     refine gT 4 rfl (by kernel_rfl) (by intro w' hSw; go_simp <;> rfl) hZq hHeld ?_; simp only [Act.put, sA, sZ, sS]
     refine gT 5 rfl (by kernel_rfl) (by intro w' hSw; go_simp <;> rfl) hZq hHeld ?_; simp only [Act.put, sA, sZ, sS]
     refine gT 6 rfl (by kernel_rfl) (by intro w' hSw; go_simp <;> rfl) hZq hHeld ?_; simp only [Act.put, sA, sZ, sS]
     refine gT 7 rfl (by kernel_rfl) (by intro w' hSw; go_simp <;> rfl) hZq hHeld ?_; simp only [Act.put, sA, sZ, sS]
     refine gT 8 rfl (by kernel_rfl) (by intro w' hSw; go_simp <;> rfl) hZq hHeld ?_; simp only [Act.put, sA, sZ, sS]
     refine gT 9 rfl (by kernel_rfl) (by intro w' hSw; go_simp <;> rfl) hZq hHeld ?_; simp only [Act.put, sA, sZ, sS]
     refine gU 10 rfl (by kernel_rfl) hZq hHeld ?_; simp only [Act.put, sA, sZ, sS]
     refine gU 11 rfl (by kernel_rfl) hZq hHeld ?_; simp only [Act.put, sA, sZ, sS]
     refine gU 12 rfl (by kernel_rfl) hZq hHeld ?_; simp only [Act.put, sA, sZ, sS]
     refine gU 13 rfl (by kernel_rfl) hZq hHeld ?_; simp only [Act.put, sA, sZ, sS]
     refine gU 14 rfl (by kernel_rfl) hZq hHeld ?_; simp only [Act.put, sA, sZ, sS]
     refine gU 15 rfl (by kernel_rfl) hZq hHeld ?_; simp only [Act.put, sA, sZ, sS]
     refine gU 16 rfl (by kernel_rfl) hZq hHeld ?_; simp only [Act.put, sA, sZ, sS]
     refine gU 17 rfl (by kernel_rfl) hZq hHeld ?_; simp only [Act.put, sA, sZ, sS]
     refine gU 18 rfl (by kernel_rfl) hZq hHeld ?_; simp only [Act.put, sA, sZ, sS]
     refine gU 19 rfl (by kernel_rfl) hZq hHeld ?_; simp only [Act.put, sA, sZ, sS]
     refine gU 20 rfl (by kernel_rfl) hZq hHeld ?_; simp only [Act.put, sA, sZ, sS]
     refine gU 21 rfl (by kernel_rfl) hZq hHeld ?_; simp only [Act.put, sA, sZ, sS]
     refine gU 22 rfl (by kernel_rfl) hZq hHeld ?_; simp only [Act.put, sA, sZ, sS]
     refine gU 23 rfl (by kernel_rfl) hZq hHeld ?_; simp only [Act.put, sA, sZ, sS]
     refine gT 24 rfl (by kernel_rfl) (by intro w' hSw; go_simp <;> rfl) hZq hHeld ?_; simp only [Act.put, sA, sZ, sS]
     refine gT 25 rfl (by kernel_rfl) (by intro w' hSw; go_simp <;> rfl) hZq hHeld ?_; simp only [Act.put, sA, sZ, sS]
     refine wpAnyH_done (by kernel_rfl) ?_ _
     have HF2 : Hid (rowThen t f (id0 :: l) (-1) seen (bs.drop (k + 1)) id0 = blkGo t f bs none []) := by show _ = _; rw [← blkGo_row hnu]; exact HF1.out
     clear HF1 hnu
     go_wp2_with fail
     go_loopw [7, 9] (fun ov i ws => ∃ (j : Nat) (sn : List Int) (pv : Int), j ≤ n1 ∧ i = .int .i64 j ∧ Hid (rowThen t f ((id0 :: l).drop j) pv sn (bs.drop (k + 1)) id0 = blkGo t f bs none []) ∧ Hid (PrevAt t (id0 :: l) j pv sn) ∧ Hid (SeenOk t sn) ∧ Hid (ws.ownsRow (w.heap.size + 2) 3 1 ov sn.length (sn.map (Value.int .i64))) ∧ Later wb ws) (fun _ i _ => n1 - (intOf i).toNat)
     case atStart => exact ⟨0, seen, -1, by omega, rfl, HF2, .inl ⟨rfl, rfl⟩, HS, ownsRow_later hown.out (inferInstance : Later wr _), inferInstance⟩
     case round =>
      obtain ⟨j, sn, pv, hj, rfl, HG, HP, HS2, hown2, hY⟩ := hrel
      have hsn := HS2.out.len TF.out
      by_cases hjt : j < n1
      ·obtain ⟨b4, o4, v, hA4, hv, hcv, _⟩ := Ints.at_ hi hjt
       cases hA4
       have HG1 : Hid (rowThen t f (v :: (id0 :: l).drop (j + 1)) pv sn (bs.drop (k + 1)) id0 = blkGo t f bs none []) := by show _ = _; rw [← HG.out, drop_at hv.out]
       have HV0 := Lib.hid hv.out
       clear HG hv
       obtain ⟨A9, c9, fp9, hov, ho9, _, _⟩ := OSl.ints_of_own hown2.out (fun y hy => by
        have h1 := HS2.out.bd y hy
        have h2 := Htl.out
        unfold I64; omega)
       subst hov
       have h9 : Ints wr A9 sn.length c9 sn := ho9.reads
       have HO9 := Lib.hid h9
       clear h9
       clear ho9
       by_cases cA : findI t v < 0
       ·have HL := rowThen_bad (t := t) (f := f) (id := v) (l := (id0 :: l).drop (j + 1)) (prev := pv) (seen := sn) (bs := bs.drop (k + 1)) (id0 := id0) (.inl cA)
        have HR : Hid (okBlk t f bs = false) := okBlk_none (HG1.out.symm.trans HL)
        clear HL HG1
        go_wp2_with fail
        go_region_held3 (fun w' => Later wb w' ∧ Later wr w') (exact ⟨inferInstance, inferInstance⟩) (first | (go_at_call 28; refine (spec_l5Find H.out (hwb0.trans inferInstance) v).mono ?_; rintro e w6 ⟨rfl, L6⟩; have X6 := Later.trans (w := wb) inferInstance L6; have Z6 := Later.trans (w := wr) inferInstance L6))
        go_wp2_with fail
        refine gO (S := (fun w' => Later wb w' ∧ Later wr w')) (by kernel_rfl) (by exact ⟨inferInstance, inferInstance⟩) (fun _ _ _ _ _ h => h) (fun hHeld hZq => ?_)
        refine gT 0 rfl (by kernel_rfl) (by intro w' hSw; go_simp <;> rfl) hZq hHeld ?_; simp only [Act.put, sA, sZ, sS]
        refine gT 1 rfl (by kernel_rfl) (by intro w' hSw; go_simp <;> rfl) hZq hHeld ?_; simp only [Act.put, sA, sZ, sS]
        refine gT 2 rfl (by kernel_rfl) (by intro w' hSw; go_simp <;> rfl) hZq hHeld ?_; simp only [Act.put, sA, sZ, sS]
        refine gU 3 rfl (by kernel_rfl) hZq hHeld ?_; simp only [Act.put, sA, sZ, sS]
        refine gU 4 rfl (by kernel_rfl) hZq hHeld ?_; simp only [Act.put, sA, sZ, sS]
        refine gU 5 rfl (by kernel_rfl) hZq hHeld ?_; simp only [Act.put, sA, sZ, sS]
        refine gT 6 rfl (by kernel_rfl) (by intro w' hSw; go_simp <;> rfl) hZq hHeld ?_; simp only [Act.put, sA, sZ, sS]
        refine gT 7 rfl (by kernel_rfl) (by intro w' hSw; go_simp <;> rfl) hZq hHeld ?_; simp only [Act.put, sA, sZ, sS]
        refine gU 8 rfl (by kernel_rfl) hZq hHeld ?_; simp only [Act.put, sA, sZ, sS]
        refine gU 9 rfl (by kernel_rfl) hZq hHeld ?_; simp only [Act.put, sA, sZ, sS]
        refine gU 10 rfl (by kernel_rfl) hZq hHeld ?_; simp only [Act.put, sA, sZ, sS]
        refine gU 11 rfl (by kernel_rfl) hZq hHeld ?_; simp only [Act.put, sA, sZ, sS]
        refine gU 12 rfl (by kernel_rfl) hZq hHeld ?_; simp only [Act.put, sA, sZ, sS]
        refine gU 13 rfl (by kernel_rfl) hZq hHeld ?_; simp only [Act.put, sA, sZ, sS]
        refine gU 14 rfl (by kernel_rfl) hZq hHeld ?_; simp only [Act.put, sA, sZ, sS]
        refine gU 15 rfl (by kernel_rfl) hZq hHeld ?_; simp only [Act.put, sA, sZ, sS]
        refine gU 16 rfl (by kernel_rfl) hZq hHeld ?_; simp only [Act.put, sA, sZ, sS]
        refine gU 17 rfl (by kernel_rfl) hZq hHeld ?_; simp only [Act.put, sA, sZ, sS]
        refine gU 18 rfl (by kernel_rfl) hZq hHeld ?_; simp only [Act.put, sA, sZ, sS]
        refine gU 19 rfl (by kernel_rfl) hZq hHeld ?_; simp only [Act.put, sA, sZ, sS]
        refine gU 20 rfl (by kernel_rfl) hZq hHeld ?_; simp only [Act.put, sA, sZ, sS]
        refine gU 21 rfl (by kernel_rfl) hZq hHeld ?_; simp only [Act.put, sA, sZ, sS]
        refine gU 22 rfl (by kernel_rfl) hZq hHeld ?_; simp only [Act.put, sA, sZ, sS]
        refine gU 23 rfl (by kernel_rfl) hZq hHeld ?_; simp only [Act.put, sA, sZ, sS]
        refine gU 24 rfl (by kernel_rfl) hZq hHeld ?_; simp only [Act.put, sA, sZ, sS]
        refine gU 25 rfl (by kernel_rfl) hZq hHeld ?_; simp only [Act.put, sA, sZ, sS]
        refine gU 26 rfl (by kernel_rfl) hZq hHeld ?_; simp only [Act.put, sA, sZ, sS]
        refine gT 27 rfl (by kernel_rfl) (by intro w' hSw; go_simp <;> rfl) hZq hHeld ?_; simp only [Act.put, sA, sZ, sS]
        refine wpAnyH_done (by kernel_rfl) ?_ _
        go_wp2
        go_ret
        exact ⟨ret_bool HR.out.symm, hww.trans inferInstance⟩
       have cAd : decide (findI t v < 0) = false := decide_eq_false cA
       by_cases cB : findI t v ∈ sn
       ·have HB9 : Hid (decide (findI t v ∈ sn) = true) := decide_eq_true cB
        have HL := rowThen_bad (t := t) (f := f) (id := v) (l := (id0 :: l).drop (j + 1)) (prev := pv) (seen := sn) (bs := bs.drop (k + 1)) (id0 := id0) (.inr (.inl cB))
        clear cB
        have HR : Hid (okBlk t f bs = false) := okBlk_none (HG1.out.symm.trans HL)
        clear HL HG1
        go_wp2_with fail
        go_region_held3 (fun w' => Later wb w' ∧ Later wr w') (exact ⟨inferInstance, inferInstance⟩) (first | (go_at_call 28; refine (spec_l5Find H.out (hwb0.trans inferInstance) v).mono ?_; rintro e w6 ⟨rfl, L6⟩; have X6 := Later.trans (w := wb) inferInstance L6; have Z6 := Later.trans (w := wr) inferInstance L6))
        go_wp2_with fail
        refine gO (S := (fun w' => Later wb w' ∧ Later wr w')) (by kernel_rfl) (by exact ⟨inferInstance, inferInstance⟩) (fun _ _ _ _ _ h => h) (fun hHeld hZq => ?_)
        refine gT 0 rfl (by kernel_rfl) (by intro w' hSw; go_simp <;> rfl) hZq hHeld ?_; simp only [Act.put, sA, sZ, sS]
        refine gT 1 rfl (by kernel_rfl) (by intro w' hSw; go_simp <;> rfl) hZq hHeld ?_; simp only [Act.put, sA, sZ, sS]
        refine gT 2 rfl (by kernel_rfl) (by intro w' hSw; go_simp <;> rfl) hZq hHeld ?_; simp only [Act.put, sA, sZ, sS]
        refine gT 3 rfl (by kernel_rfl) (by intro w' hSw; go_simp <;> rfl) hZq hHeld ?_; simp only [Act.put, sA, sZ, sS]
        refine gT 4 rfl (by kernel_rfl) (by intro w' hSw; go_simp <;> rfl) hZq hHeld ?_; simp only [Act.put, sA, sZ, sS]
        refine gE 5 rfl (by kernel_rfl) (fun K hK => ?_)
        go_simp
        (go_at_call 49; refine (spec_l1Has HO9.out inferInstance _).mono ?_; rw [HB9.out]; rintro e w4 ⟨rfl, L4⟩; have X4 := Later.trans (w := wb) inferInstance L4; have Z4 := Later.trans (w := wr) inferInstance L4)
        refine hK.out _ _ (by exact ⟨inferInstance, inferInstance⟩) (fun hHeld => ?_)
        try simp only [Act.put, sA, sZ, sS]
        refine gT 6 rfl (by kernel_rfl) (by intro w' hSw; go_simp <;> rfl) hZq hHeld ?_; simp only [Act.put, sA, sZ, sS]
        refine gT 7 rfl (by kernel_rfl) (by intro w' hSw; go_simp <;> rfl) hZq hHeld ?_; simp only [Act.put, sA, sZ, sS]
        refine gU 8 rfl (by kernel_rfl) hZq hHeld ?_; simp only [Act.put, sA, sZ, sS]
        refine gU 9 rfl (by kernel_rfl) hZq hHeld ?_; simp only [Act.put, sA, sZ, sS]
        refine gU 10 rfl (by kernel_rfl) hZq hHeld ?_; simp only [Act.put, sA, sZ, sS]
        refine gU 11 rfl (by kernel_rfl) hZq hHeld ?_; simp only [Act.put, sA, sZ, sS]
        refine gU 12 rfl (by kernel_rfl) hZq hHeld ?_; simp only [Act.put, sA, sZ, sS]
        refine gU 13 rfl (by kernel_rfl) hZq hHeld ?_; simp only [Act.put, sA, sZ, sS]
        refine gU 14 rfl (by kernel_rfl) hZq hHeld ?_; simp only [Act.put, sA, sZ, sS]
        refine gU 15 rfl (by kernel_rfl) hZq hHeld ?_; simp only [Act.put, sA, sZ, sS]
        refine gU 16 rfl (by kernel_rfl) hZq hHeld ?_; simp only [Act.put, sA, sZ, sS]
        refine gU 17 rfl (by kernel_rfl) hZq hHeld ?_; simp only [Act.put, sA, sZ, sS]
        refine gU 18 rfl (by kernel_rfl) hZq hHeld ?_; simp only [Act.put, sA, sZ, sS]
        refine gU 19 rfl (by kernel_rfl) hZq hHeld ?_; simp only [Act.put, sA, sZ, sS]
        refine gU 20 rfl (by kernel_rfl) hZq hHeld ?_; simp only [Act.put, sA, sZ, sS]
        refine gU 21 rfl (by kernel_rfl) hZq hHeld ?_; simp only [Act.put, sA, sZ, sS]
        refine gU 22 rfl (by kernel_rfl) hZq hHeld ?_; simp only [Act.put, sA, sZ, sS]
        refine gU 23 rfl (by kernel_rfl) hZq hHeld ?_; simp only [Act.put, sA, sZ, sS]
        refine gU 24 rfl (by kernel_rfl) hZq hHeld ?_; simp only [Act.put, sA, sZ, sS]
        refine gU 25 rfl (by kernel_rfl) hZq hHeld ?_; simp only [Act.put, sA, sZ, sS]
        refine gU 26 rfl (by kernel_rfl) hZq hHeld ?_; simp only [Act.put, sA, sZ, sS]
        refine gT 27 rfl (by kernel_rfl) (by intro w' hSw; go_simp <;> rfl) hZq hHeld ?_; simp only [Act.put, sA, sZ, sS]
        refine wpAnyH_done (by kernel_rfl) ?_ _
        go_wp2
        go_ret
        exact ⟨ret_bool HR.out.symm, hww.trans inferInstance⟩
       have HB9 : Hid (decide (findI t v ∈ sn) = false) := decide_eq_false cB
       have HSN : Hid (SeenOk t (sn ++ [findI t v])) := HS2.out.snoc (by omega) (findI_bd t v).2 cB
       have HP2 : Hid (PrevAt t (id0 :: l) (j + 1) (findI t v) (sn ++ [findI t v])) := .inr ⟨j, v, rfl, HV0.out, rfl, by omega, by simp⟩
       rcases HP.out with ⟨hj0, hpv⟩ | ⟨m, u, hjm, hu0, hpv, hu1, hu2⟩
       ·have HG2 : Hid (rowThen t f ((id0 :: l).drop (j + 1)) (findI t v) (sn ++ [findI t v]) (bs.drop (k + 1)) id0 = blkGo t f bs none []) := by
         show _ = _
         rw [← HG1.out, rowThen_good (by
          unfold rowBad; rw [hpv]
          rintro (h | h | h)
          ·exact cA h
          ·exact cB h
          ·omega)]
        have hj0' : ¬ (0 < (j : Int)) := by omega
        have hj0n : ¬ (0 < j) := by omega
        have hj0d : decide (0 < j) = false := decide_eq_false hj0n
        clear cB HG1 hj0 hpv
        go_wp2_with fail
        go_region_held3 (fun w' => Later wb w' ∧ Later wr w') (exact ⟨inferInstance, inferInstance⟩) (first | (go_at_call 28; refine (spec_l5Find H.out (hwb0.trans inferInstance) v).mono ?_; rintro e w6 ⟨rfl, L6⟩; have X6 := Later.trans (w := wb) inferInstance L6; have Z6 := Later.trans (w := wr) inferInstance L6))
        go_wp2_with fail
        refine gO (S := (fun w' => Later wb w' ∧ Later wr w')) (by kernel_rfl) (by exact ⟨inferInstance, inferInstance⟩) (fun _ _ _ _ _ h => h) (fun hHeld hZq => ?_)
        refine gT 0 rfl (by kernel_rfl) (by intro w' hSw; go_simp <;> rfl) hZq hHeld ?_; simp only [Act.put, sA, sZ, sS]
        refine gT 1 rfl (by kernel_rfl) (by intro w' hSw; go_simp <;> rfl) hZq hHeld ?_; simp only [Act.put, sA, sZ, sS]
        refine gT 2 rfl (by kernel_rfl) (by intro w' hSw; go_simp <;> rfl) hZq hHeld ?_; simp only [Act.put, sA, sZ, sS]
        refine gT 3 rfl (by kernel_rfl) (by intro w' hSw; go_simp <;> rfl) hZq hHeld ?_; simp only [Act.put, sA, sZ, sS]
        refine gT 4 rfl (by kernel_rfl) (by intro w' hSw; go_simp <;> rfl) hZq hHeld ?_; simp only [Act.put, sA, sZ, sS]
        refine gE 5 rfl (by kernel_rfl) (fun K hK => ?_)
        go_simp
        (go_at_call 49; refine (spec_l1Has HO9.out inferInstance _).mono ?_; rw [HB9.out]; rintro e w4 ⟨rfl, L4⟩; have X4 := Later.trans (w := wb) inferInstance L4; have Z4 := Later.trans (w := wr) inferInstance L4)
        refine hK.out _ _ (by exact ⟨inferInstance, inferInstance⟩) (fun hHeld => ?_)
        try simp only [Act.put, sA, sZ, sS]
        refine gT 6 rfl (by kernel_rfl) (by intro w' hSw; go_simp <;> rfl) hZq hHeld ?_; simp only [Act.put, sA, sZ, sS]
        refine gT 7 rfl (by kernel_rfl) (by intro w' hSw; go_simp <;> rfl) hZq hHeld ?_; simp only [Act.put, sA, sZ, sS]
        refine gT 8 rfl (by kernel_rfl) (by intro w' hSw; go_simp <;> rfl) hZq hHeld ?_; simp only [Act.put, sA, sZ, sS]
        refine gT 9 rfl (by kernel_rfl) (by intro w' hSw; go_simp <;> rfl) hZq hHeld ?_; simp only [Act.put, sA, sZ, sS]
        refine gT 10 rfl (by kernel_rfl) (by intro w' hSw; go_simp <;> rfl) hZq hHeld ?_; simp only [Act.put, sA, sZ, sS]
        refine gU 11 rfl (by kernel_rfl) hZq hHeld ?_; simp only [Act.put, sA, sZ, sS]
        refine gU 12 rfl (by kernel_rfl) hZq hHeld ?_; simp only [Act.put, sA, sZ, sS]
        refine gU 13 rfl (by kernel_rfl) hZq hHeld ?_; simp only [Act.put, sA, sZ, sS]
        refine gU 14 rfl (by kernel_rfl) hZq hHeld ?_; simp only [Act.put, sA, sZ, sS]
        refine gU 15 rfl (by kernel_rfl) hZq hHeld ?_; simp only [Act.put, sA, sZ, sS]
        refine gU 16 rfl (by kernel_rfl) hZq hHeld ?_; simp only [Act.put, sA, sZ, sS]
        refine gU 17 rfl (by kernel_rfl) hZq hHeld ?_; simp only [Act.put, sA, sZ, sS]
        refine gU 18 rfl (by kernel_rfl) hZq hHeld ?_; simp only [Act.put, sA, sZ, sS]
        refine gU 19 rfl (by kernel_rfl) hZq hHeld ?_; simp only [Act.put, sA, sZ, sS]
        refine gU 20 rfl (by kernel_rfl) hZq hHeld ?_; simp only [Act.put, sA, sZ, sS]
        refine gU 21 rfl (by kernel_rfl) hZq hHeld ?_; simp only [Act.put, sA, sZ, sS]
        refine gU 22 rfl (by kernel_rfl) hZq hHeld ?_; simp only [Act.put, sA, sZ, sS]
        refine gU 23 rfl (by kernel_rfl) hZq hHeld ?_; simp only [Act.put, sA, sZ, sS]
        refine gU 24 rfl (by kernel_rfl) hZq hHeld ?_; simp only [Act.put, sA, sZ, sS]
        refine gU 25 rfl (by kernel_rfl) hZq hHeld ?_; simp only [Act.put, sA, sZ, sS]
        refine gT 26 rfl (by kernel_rfl) (by intro w' hSw; go_simp <;> rfl) hZq hHeld ?_; simp only [Act.put, sA, sZ, sS]
        refine gT 27 rfl (by kernel_rfl) (by intro w' hSw; go_simp <;> rfl) hZq hHeld ?_; simp only [Act.put, sA, sZ, sS]
        refine wpAnyH_done (by kernel_rfl) ?_ _
        go_wp2_with (at_builtin; refine wpList_app_B rfl _ _ 66 rfl Tryz.underlying66 infoInt rfl (by decide) (by decide) rfl (by exact ownsRow_later hown2.out (inferInstance : Later wr w4)) (inferInstance : Later wb w4) hbs (by have := Later.size (w := wb) (W := w4) inferInstance; omega) rfl rfl (one_cell _ _) (by omega) ?_; intro v' w8 hown' hX')
        go_roundw
        case rel => exact ⟨j + 1, sn ++ [findI t v], findI t v, by omega, by go_num, HG2, HP2, HSN, by show World.ownsRow _ _ _ _ _ _ _; rw [List.map_append, List.length_append]; exact hown', inferInstance⟩
        case measure => simp [intOf]; omega
       ·have hmn : m < n1 := by omega
        obtain ⟨b5, o5, u', hA5, hu', hcu, _⟩ := Ints.at_ hi hmn
        cases hA5
        obtain rfl : u' = u := Option.some.inj (hu'.out.symm.trans hu0)
        have hwj : IntKind.i64.wrap ((j : Int) - 1) = (m : Int) := by rw [IntKind.wrap_i64]; omega
        have hj0' : 0 < (j : Int) := by omega
        have hj0n : 0 < j := by omega
        have k3 := (findI_bd t u').2
        have k4 := (findI_bd t v).2
        have KK := Lib.hid (And.intro hu1 (And.intro k3 (And.intro (show 0 ≤ findI t v by omega) k4)))
        have TY := Lib.hid (tripI_facts TF.out hu1 k3)
        have TX := Lib.hid (tripI_facts TF.out (show 0 ≤ findI t v by omega) k4)
        have HNE : Hid (findI t u' ≠ findI t v) := fun e => cB (e ▸ hu2)
        by_cases cF : canF t f (tripI t (findI t u')) (tripI t (findI t v)) = true
        ·have HG2 : Hid (rowThen t f ((id0 :: l).drop (j + 1)) (findI t v) (sn ++ [findI t v]) (bs.drop (k + 1)) id0 = blkGo t f bs none []) := by
          show _ = _
          rw [← HG1.out, rowThen_good (by
           unfold rowBad; rw [hpv, cF]
           rintro (h | h | h)
           ·exact cA h
           ·exact cB h
           ·exact absurd h.2 (by simp))]
         clear cB HG1 hpv hu0 hu1 hu2 hu' k3 k4 hjm
         go_wp2_with fail
         go_region_held3 (fun w' => Later wb w' ∧ Later wr w') (exact ⟨inferInstance, inferInstance⟩) (first | (go_at_call 28; refine (spec_l5Find H.out (hwb0.trans inferInstance) v).mono ?_; rintro e w6 ⟨rfl, L6⟩; have X6 := Later.trans (w := wb) inferInstance L6; have Z6 := Later.trans (w := wr) inferInstance L6))
         go_wp2_with fail
         refine gO (S := (fun w' => Later wb w' ∧ Later wr w')) (by kernel_rfl) (by exact ⟨inferInstance, inferInstance⟩) (fun _ _ _ _ _ h => h) (fun hHeld hZq => ?_)
         refine gT 0 rfl (by kernel_rfl) (by intro w' hSw; go_simp <;> rfl) hZq hHeld ?_; simp only [Act.put, sA, sZ, sS]
         refine gT 1 rfl (by kernel_rfl) (by intro w' hSw; go_simp <;> rfl) hZq hHeld ?_; simp only [Act.put, sA, sZ, sS]
         refine gT 2 rfl (by kernel_rfl) (by intro w' hSw; go_simp <;> rfl) hZq hHeld ?_; simp only [Act.put, sA, sZ, sS]
         refine gT 3 rfl (by kernel_rfl) (by intro w' hSw; go_simp <;> rfl) hZq hHeld ?_; simp only [Act.put, sA, sZ, sS]
         refine gT 4 rfl (by kernel_rfl) (by intro w' hSw; go_simp <;> rfl) hZq hHeld ?_; simp only [Act.put, sA, sZ, sS]
         refine gE 5 rfl (by kernel_rfl) (fun K hK => ?_)
         go_simp
         (go_at_call 49; refine (spec_l1Has HO9.out inferInstance _).mono ?_; rw [HB9.out]; rintro e w4 ⟨rfl, L4⟩; have X4 := Later.trans (w := wb) inferInstance L4; have Z4 := Later.trans (w := wr) inferInstance L4)
         refine hK.out _ _ (by exact ⟨inferInstance, inferInstance⟩) (fun hHeld => ?_)
         try simp only [Act.put, sA, sZ, sS]
         refine gT 6 rfl (by kernel_rfl) (by intro w' hSw; go_simp <;> rfl) hZq hHeld ?_; simp only [Act.put, sA, sZ, sS]
         refine gT 7 rfl (by kernel_rfl) (by intro w' hSw; go_simp <;> rfl) hZq hHeld ?_; simp only [Act.put, sA, sZ, sS]
         refine gT 8 rfl (by kernel_rfl) (by intro w' hSw; go_simp <;> rfl) hZq hHeld ?_; simp only [Act.put, sA, sZ, sS]
         refine gT 9 rfl (by kernel_rfl) (by intro w' hSw; go_simp <;> rfl) hZq hHeld ?_; simp only [Act.put, sA, sZ, sS]
         refine gT 10 rfl (by kernel_rfl) (by intro w' hSw; go_simp <;> rfl) hZq hHeld ?_; simp only [Act.put, sA, sZ, sS]
         refine gT 11 rfl (by kernel_rfl) (by intro w' hSw; go_simp <;> rfl) hZq hHeld ?_; simp only [Act.put, sA, sZ, sS]
         refine gT 12 rfl (by kernel_rfl) (by intro w' hSw; go_simp <;> rfl) hZq hHeld ?_; simp only [Act.put, sA, sZ, sS]
         refine gT 13 rfl (by kernel_rfl) (by intro w' hSw; go_simp <;> rfl) hZq hHeld ?_; simp only [Act.put, sA, sZ, sS]
         refine gT 14 rfl (by kernel_rfl) (by intro w' hSw; go_simp <;> rfl) hZq hHeld ?_; simp only [Act.put, sA, sZ, sS]
         refine gT 15 rfl (by kernel_rfl) (by intro w' hSw; go_simp <;> rfl) hZq hHeld ?_; simp only [Act.put, sA, sZ, sS]
         refine gT 16 rfl (by kernel_rfl) (by intro w' hSw; go_simp <;> rfl) hZq hHeld ?_; simp only [Act.put, sA, sZ, sS]
         refine gT 17 rfl (by kernel_rfl) (by intro w' hSw; go_simp <;> rfl) hZq hHeld ?_; simp only [Act.put, sA, sZ, sS]
         refine gT 18 rfl (by kernel_rfl) (by intro w' hSw; go_simp <;> rfl) hZq hHeld ?_; simp only [Act.put, sA, sZ, sS]
         refine gT 19 rfl (by kernel_rfl) (by intro w' hSw; go_simp <;> rfl) hZq hHeld ?_; simp only [Act.put, sA, sZ, sS]
         refine gT 20 rfl (by kernel_rfl) (by intro w' hSw; go_simp <;> rfl) hZq hHeld ?_; simp only [Act.put, sA, sZ, sS]
         refine gT 21 rfl (by kernel_rfl) (by intro w' hSw; go_simp <;> rfl) hZq hHeld ?_; simp only [Act.put, sA, sZ, sS]
         refine gT 23 rfl (by kernel_rfl) (by intro w' hSw; go_simp <;> rfl) hZq hHeld ?_; simp only [Act.put, sA, sZ, sS]
         refine gE 22 rfl (by kernel_rfl) (fun K hK => ?_)
         go_simp
         (go_at_call 28; refine (spec_l5Find H.out (hwb0.trans inferInstance) u').mono ?_; rintro e w7 ⟨rfl, L7⟩; have X7 := Later.trans (w := wb) inferInstance L7; have Z7 := Later.trans (w := wr) inferInstance L7)
         refine hK.out _ _ (by exact ⟨inferInstance, inferInstance⟩) (fun hHeld => ?_)
         try simp only [Act.put, sA, sZ, sS]
         refine gE 24 rfl (by kernel_rfl) (fun K hK => ?_)
         go_simp
         (go_at_call 108; refine (spec_l11Follows H.out (hwb0.trans inferInstance) H2.out (hwb2.trans inferInstance) TF.out.net FF.out _ _ KK.out.1 KK.out.2.1 KK.out.2.2.1 KK.out.2.2.2 TY.out TX.out HNE.out).mono ?_; rintro e w5 ⟨rfl, L5⟩; have X5 := Later.trans (w := wb) inferInstance L5; have Z5 := Later.trans (w := wr) inferInstance L5)
         refine hK.out _ _ (by exact ⟨inferInstance, inferInstance⟩) (fun hHeld => ?_)
         try simp only [Act.put, sA, sZ, sS]
         refine gT 25 rfl (by kernel_rfl) (by intro w' hSw; go_simp <;> rfl) hZq hHeld ?_; simp only [Act.put, sA, sZ, sS]
         refine gT 26 rfl (by kernel_rfl) (by intro w' hSw; go_simp <;> rfl) hZq hHeld ?_; simp only [Act.put, sA, sZ, sS]
         refine gT 27 rfl (by kernel_rfl) (by intro w' hSw; go_simp <;> rfl) hZq hHeld ?_; simp only [Act.put, sA, sZ, sS]
         refine wpAnyH_done (by kernel_rfl) ?_ _
         clear hwj
         go_wp2_with (at_builtin; refine wpList_app_B rfl _ _ 66 rfl Tryz.underlying66 infoInt rfl (by decide) (by decide) rfl (by exact ownsRow_later hown2.out (inferInstance : Later wr w5)) (inferInstance : Later wb w5) hbs (by have := Later.size (w := wb) (W := w5) inferInstance; omega) rfl rfl (one_cell _ _) (by omega) ?_; intro v' w8 hown' hX')
         go_roundw
         case rel => exact ⟨j + 1, sn ++ [findI t v], findI t v, by omega, by go_num, HG2, HP2, HSN, by show World.ownsRow _ _ _ _ _ _ _; rw [List.map_append, List.length_append]; exact hown', inferInstance⟩
         case measure => simp [intOf]; omega
        ·have cG : canF t f (tripI t (findI t u')) (tripI t (findI t v)) = false := by simpa using cF
         have HL := rowThen_bad (t := t) (f := f) (id := v) (l := (id0 :: l).drop (j + 1)) (prev := pv) (seen := sn) (bs := bs.drop (k + 1)) (id0 := id0) (.inr (.inr ⟨by omega, by rw [hpv]; exact cG⟩))
         clear cB cF hpv hu0 hu1 hu2 hu' k3 k4 hjm
         have HR : Hid (okBlk t f bs = false) := okBlk_none (HG1.out.symm.trans HL)
         clear HL HG1
         go_wp2_with fail
         go_region_held3 (fun w' => Later wb w' ∧ Later wr w') (exact ⟨inferInstance, inferInstance⟩) (first | (go_at_call 28; refine (spec_l5Find H.out (hwb0.trans inferInstance) v).mono ?_; rintro e w6 ⟨rfl, L6⟩; have X6 := Later.trans (w := wb) inferInstance L6; have Z6 := Later.trans (w := wr) inferInstance L6))
         go_wp2_with fail
         refine gO (S := (fun w' => Later wb w' ∧ Later wr w')) (by kernel_rfl) (by exact ⟨inferInstance, inferInstance⟩) (fun _ _ _ _ _ h => h) (fun hHeld hZq => ?_)
         refine gT 0 rfl (by kernel_rfl) (by intro w' hSw; go_simp <;> rfl) hZq hHeld ?_; simp only [Act.put, sA, sZ, sS]
         refine gT 1 rfl (by kernel_rfl) (by intro w' hSw; go_simp <;> rfl) hZq hHeld ?_; simp only [Act.put, sA, sZ, sS]
         refine gT 2 rfl (by kernel_rfl) (by intro w' hSw; go_simp <;> rfl) hZq hHeld ?_; simp only [Act.put, sA, sZ, sS]
         refine gT 3 rfl (by kernel_rfl) (by intro w' hSw; go_simp <;> rfl) hZq hHeld ?_; simp only [Act.put, sA, sZ, sS]
         refine gT 4 rfl (by kernel_rfl) (by intro w' hSw; go_simp <;> rfl) hZq hHeld ?_; simp only [Act.put, sA, sZ, sS]
         refine gE 5 rfl (by kernel_rfl) (fun K hK => ?_)
         go_simp
         (go_at_call 49; refine (spec_l1Has HO9.out inferInstance _).mono ?_; rw [HB9.out]; rintro e w4 ⟨rfl, L4⟩; have X4 := Later.trans (w := wb) inferInstance L4; have Z4 := Later.trans (w := wr) inferInstance L4)
         refine hK.out _ _ (by exact ⟨inferInstance, inferInstance⟩) (fun hHeld => ?_)
         try simp only [Act.put, sA, sZ, sS]
         refine gT 6 rfl (by kernel_rfl) (by intro w' hSw; go_simp <;> rfl) hZq hHeld ?_; simp only [Act.put, sA, sZ, sS]
         refine gT 7 rfl (by kernel_rfl) (by intro w' hSw; go_simp <;> rfl) hZq hHeld ?_; simp only [Act.put, sA, sZ, sS]
         refine gT 8 rfl (by kernel_rfl) (by intro w' hSw; go_simp <;> rfl) hZq hHeld ?_; simp only [Act.put, sA, sZ, sS]
         refine gT 9 rfl (by kernel_rfl) (by intro w' hSw; go_simp <;> rfl) hZq hHeld ?_; simp only [Act.put, sA, sZ, sS]
         refine gT 10 rfl (by kernel_rfl) (by intro w' hSw; go_simp <;> rfl) hZq hHeld ?_; simp only [Act.put, sA, sZ, sS]
         refine gT 11 rfl (by kernel_rfl) (by intro w' hSw; go_simp <;> rfl) hZq hHeld ?_; simp only [Act.put, sA, sZ, sS]
         refine gT 12 rfl (by kernel_rfl) (by intro w' hSw; go_simp <;> rfl) hZq hHeld ?_; simp only [Act.put, sA, sZ, sS]
         refine gT 13 rfl (by kernel_rfl) (by intro w' hSw; go_simp <;> rfl) hZq hHeld ?_; simp only [Act.put, sA, sZ, sS]
         refine gT 14 rfl (by kernel_rfl) (by intro w' hSw; go_simp <;> rfl) hZq hHeld ?_; simp only [Act.put, sA, sZ, sS]
         refine gT 15 rfl (by kernel_rfl) (by intro w' hSw; go_simp <;> rfl) hZq hHeld ?_; simp only [Act.put, sA, sZ, sS]
         refine gT 16 rfl (by kernel_rfl) (by intro w' hSw; go_simp <;> rfl) hZq hHeld ?_; simp only [Act.put, sA, sZ, sS]
         refine gT 17 rfl (by kernel_rfl) (by intro w' hSw; go_simp <;> rfl) hZq hHeld ?_; simp only [Act.put, sA, sZ, sS]
         refine gT 18 rfl (by kernel_rfl) (by intro w' hSw; go_simp <;> rfl) hZq hHeld ?_; simp only [Act.put, sA, sZ, sS]
         refine gT 19 rfl (by kernel_rfl) (by intro w' hSw; go_simp <;> rfl) hZq hHeld ?_; simp only [Act.put, sA, sZ, sS]
         refine gT 20 rfl (by kernel_rfl) (by intro w' hSw; go_simp <;> rfl) hZq hHeld ?_; simp only [Act.put, sA, sZ, sS]
         refine gT 21 rfl (by kernel_rfl) (by intro w' hSw; go_simp <;> rfl) hZq hHeld ?_; simp only [Act.put, sA, sZ, sS]
         refine gT 23 rfl (by kernel_rfl) (by intro w' hSw; go_simp <;> rfl) hZq hHeld ?_; simp only [Act.put, sA, sZ, sS]
         refine gE 22 rfl (by kernel_rfl) (fun K hK => ?_)
         go_simp
         (go_at_call 28; refine (spec_l5Find H.out (hwb0.trans inferInstance) u').mono ?_; rintro e w7 ⟨rfl, L7⟩; have X7 := Later.trans (w := wb) inferInstance L7; have Z7 := Later.trans (w := wr) inferInstance L7)
         refine hK.out _ _ (by exact ⟨inferInstance, inferInstance⟩) (fun hHeld => ?_)
         try simp only [Act.put, sA, sZ, sS]
         refine gE 24 rfl (by kernel_rfl) (fun K hK => ?_)
         go_simp
         (go_at_call 108; refine (spec_l11Follows H.out (hwb0.trans inferInstance) H2.out (hwb2.trans inferInstance) TF.out.net FF.out _ _ KK.out.1 KK.out.2.1 KK.out.2.2.1 KK.out.2.2.2 TY.out TX.out HNE.out).mono ?_; rintro e w5 ⟨rfl, L5⟩; have X5 := Later.trans (w := wb) inferInstance L5; have Z5 := Later.trans (w := wr) inferInstance L5)
         refine hK.out _ _ (by exact ⟨inferInstance, inferInstance⟩) (fun hHeld => ?_)
         try simp only [Act.put, sA, sZ, sS]
         refine gT 25 rfl (by kernel_rfl) (by intro w' hSw; go_simp <;> rfl) hZq hHeld ?_; simp only [Act.put, sA, sZ, sS]
         refine gT 26 rfl (by kernel_rfl) (by intro w' hSw; go_simp <;> rfl) hZq hHeld ?_; simp only [Act.put, sA, sZ, sS]
         refine gT 27 rfl (by kernel_rfl) (by intro w' hSw; go_simp <;> rfl) hZq hHeld ?_; simp only [Act.put, sA, sZ, sS]
         refine wpAnyH_done (by kernel_rfl) ?_ _
         clear hwj
         go_wp2
         go_ret
         exact ⟨ret_bool HR.out.symm, hww.trans inferInstance⟩
      ·have HF3 : Hid (blkGo t f (bs.drop (k + 1)) (some id0) sn = blkGo t f bs none []) := by
        have h3 := HG.out
        rw [List.drop_eq_nil_of_le (by have := Hxl.out; omega)] at h3
        exact h3
       clear HG
       go_wp2
       go_roundw
       case rel => exact ⟨k + 1, sn, some id0, by omega, by go_num, HF3, .inr ⟨k, id0, l, rfl, HX.out, rfl⟩, HS2, ownsRow_later hown2.out (inferInstance : Later wr _), inferInstance⟩
       case measure => simp [intOf]; omega
    ·have hmn : m < bn := by omega
     obtain ⟨b7, o7, A7, n7, c7, x7, hA7, hx7, hc7, hi7⟩ := Sl.row_ HBA.out hmn
     cases hA7
     obtain rfl : x7 = p :: r := Option.some.inj (hx7.out.symm.trans hbm)
     have hn7 : 0 < n7 := by rw [hi7.len]; simp
     have hn7m := hi7.le
     obtain ⟨b8, o8, p', rfl, hp', hcp, _⟩ := Ints.at_ hi7 hn7
     simp only [Nat.add_zero] at hcp
     obtain rfl : p = p' := by simpa using hp'.out
     have hwk : IntKind.i64.wrap ((k : Int) - 1) = (m : Int) := by rw [IntKind.wrap_i64]; omega
     have hk0' : 0 < (k : Int) := by omega
     have hk0n : 0 < k := by omega
     clear hi7 hx7 hp'
     by_cases c : id0 ≤ p
     ·have HL : blkGo t f ((id0 :: l) :: bs.drop (k + 1)) prev seen = none := by
       rw [hpm]; simp only [blkGo]; rw [if_pos (by simpa [notUp] using c)]
      have HR : Hid (okBlk t f bs = false) := okBlk_none (HF1.out.symm.trans HL)
      clear HL hi hbm hpm hkm
      go_wp2_with fail
      refine gO (S := (fun w' => Later wb w' ∧ Later wr w')) (by kernel_rfl) (by exact ⟨inferInstance, inferInstance⟩) (fun _ _ _ _ _ h => h) (fun hHeld hZq => ?_)
      refine gT 0 rfl (by kernel_rfl) (by intro w' hSw; go_simp <;> rfl) hZq hHeld ?_; simp only [Act.put, sA, sZ, sS]
      refine gT 1 rfl (by kernel_rfl) (by intro w' hSw; go_simp <;> rfl) hZq hHeld ?_; simp only [Act.put, sA, sZ, sS]
      refine gT 2 rfl (by kernel_rfl) (by intro w' hSw; go_simp <;> rfl) hZq hHeld ?_; simp only [Act.put, sA, sZ, sS]
      refine gT 3 rfl (by kernel_rfl) (by intro w' hSw; go_simp <;> rfl) hZq hHeld ?_; simp only [Act.put, sA, sZ, sS]
      refine gT 4 rfl (by kernel_rfl) (by intro w' hSw; go_simp <;> rfl) hZq hHeld ?_; simp only [Act.put, sA, sZ, sS]
      refine gT 5 rfl (by kernel_rfl) (by intro w' hSw; go_simp <;> rfl) hZq hHeld ?_; simp only [Act.put, sA, sZ, sS]
      refine gT 6 rfl (by kernel_rfl) (by intro w' hSw; go_simp <;> rfl) hZq hHeld ?_; simp only [Act.put, sA, sZ, sS]
      refine gT 7 rfl (by kernel_rfl) (by intro w' hSw; go_simp <;> rfl) hZq hHeld ?_; simp only [Act.put, sA, sZ, sS]
      refine gT 8 rfl (by kernel_rfl) (by intro w' hSw; go_simp <;> rfl) hZq hHeld ?_; simp only [Act.put, sA, sZ, sS]
      refine gT 9 rfl (by kernel_rfl) (by intro w' hSw; go_simp <;> rfl) hZq hHeld ?_; simp only [Act.put, sA, sZ, sS]
      refine gT 10 rfl (by kernel_rfl) (by intro w' hSw; go_simp <;> rfl) hZq hHeld ?_; simp only [Act.put, sA, sZ, sS]
      refine gT 11 rfl (by kernel_rfl) (by intro w' hSw; go_simp <;> rfl) hZq hHeld ?_; simp only [Act.put, sA, sZ, sS]
      refine gT 12 rfl (by kernel_rfl) (by intro w' hSw; go_simp <;> rfl) hZq hHeld ?_; simp only [Act.put, sA, sZ, sS]
      refine gT 13 rfl (by kernel_rfl) (by intro w' hSw; go_simp <;> rfl) hZq hHeld ?_; simp only [Act.put, sA, sZ, sS]
      refine gT 14 rfl (by kernel_rfl) (by intro w' hSw; go_simp <;> rfl) hZq hHeld ?_; simp only [Act.put, sA, sZ, sS]
      refine gT 15 rfl (by kernel_rfl) (by intro w' hSw; go_simp <;> rfl) hZq hHeld ?_; simp only [Act.put, sA, sZ, sS]
      refine gT 16 rfl (by kernel_rfl) (by intro w' hSw; go_simp <;> rfl) hZq hHeld ?_; simp only [Act.put, sA, sZ, sS]
      refine gT 17 rfl (by kernel_rfl) (by intro w' hSw; go_simp <;> rfl) hZq hHeld ?_; simp only [Act.put, sA, sZ, sS]
      refine gT 18 rfl (by kernel_rfl) (by intro w' hSw; go_simp <;> rfl) hZq hHeld ?_; simp only [Act.put, sA, sZ, sS]
      refine gT 19 rfl (by kernel_rfl) (by intro w' hSw; go_simp <;> rfl) hZq hHeld ?_; simp only [Act.put, sA, sZ, sS]
      refine gT 20 rfl (by kernel_rfl) (by intro w' hSw; go_simp <;> rfl) hZq hHeld ?_; simp only [Act.put, sA, sZ, sS]
      refine gT 21 rfl (by kernel_rfl) (by intro w' hSw; go_simp <;> rfl) hZq hHeld ?_; simp only [Act.put, sA, sZ, sS]
      refine gT 22 rfl (by kernel_rfl) (by intro w' hSw; go_simp <;> rfl) hZq hHeld ?_; simp only [Act.put, sA, sZ, sS]
      refine gT 23 rfl (by kernel_rfl) (by intro w' hSw; go_simp <;> rfl) hZq hHeld ?_; simp only [Act.put, sA, sZ, sS]
      refine gT 24 rfl (by kernel_rfl) (by intro w' hSw; go_simp <;> rfl) hZq hHeld ?_; simp only [Act.put, sA, sZ, sS]
      refine gT 25 rfl (by kernel_rfl) (by intro w' hSw; go_simp <;> rfl) hZq hHeld ?_; simp only [Act.put, sA, sZ, sS]
      refine wpAnyH_done (by kernel_rfl) ?_ _
      clear hwk
      go_wp2
      go_ret
      exact ⟨ret_bool HR.out.symm, hww.trans inferInstance⟩
     ·have hnu : notUp prev id0 = false := by rw [hpm]; simp only [notUp, decide_eq_false_iff_not]; exact c
      clear hbm hpm hkm
      go_wp2_with fail
      refine gO (S := (fun w' => Later wb w' ∧ Later wr w')) (by kernel_rfl) (by exact ⟨inferInstance, inferInstance⟩) (fun _ _ _ _ _ h => h) (fun hHeld hZq => ?_)
      refine gT 0 rfl (by kernel_rfl) (by intro w' hSw; go_simp <;> rfl) hZq hHeld ?_; simp only [Act.put, sA, sZ, sS]
      refine gT 1 rfl (by kernel_rfl) (by intro w' hSw; go_simp <;> rfl) hZq hHeld ?_; simp only [Act.put, sA, sZ, sS]
      refine gT 2 rfl (by kernel_rfl) (by intro w' hSw; go_simp <;> rfl) hZq hHeld ?_; simp only [Act.put, sA, sZ, sS]
      refine gT 3 rfl (by kernel_rfl) (by intro w' hSw; go_simp <;> rfl) hZq hHeld ?_; simp only [Act.put, sA, sZ, sS]
      refine gT 4 rfl (by kernel_rfl) (by intro w' hSw; go_simp <;> rfl) hZq hHeld ?_; simp only [Act.put, sA, sZ, sS]
      refine gT 5 rfl (by kernel_rfl) (by intro w' hSw; go_simp <;> rfl) hZq hHeld ?_; simp only [Act.put, sA, sZ, sS]
      refine gT 6 rfl (by kernel_rfl) (by intro w' hSw; go_simp <;> rfl) hZq hHeld ?_; simp only [Act.put, sA, sZ, sS]
      refine gT 7 rfl (by kernel_rfl) (by intro w' hSw; go_simp <;> rfl) hZq hHeld ?_; simp only [Act.put, sA, sZ, sS]
      refine gT 8 rfl (by kernel_rfl) (by intro w' hSw; go_simp <;> rfl) hZq hHeld ?_; simp only [Act.put, sA, sZ, sS]
      refine gT 9 rfl (by kernel_rfl) (by intro w' hSw; go_simp <;> rfl) hZq hHeld ?_; simp only [Act.put, sA, sZ, sS]
      refine gT 10 rfl (by kernel_rfl) (by intro w' hSw; go_simp <;> rfl) hZq hHeld ?_; simp only [Act.put, sA, sZ, sS]
      refine gT 11 rfl (by kernel_rfl) (by intro w' hSw; go_simp <;> rfl) hZq hHeld ?_; simp only [Act.put, sA, sZ, sS]
      refine gT 12 rfl (by kernel_rfl) (by intro w' hSw; go_simp <;> rfl) hZq hHeld ?_; simp only [Act.put, sA, sZ, sS]
      refine gT 13 rfl (by kernel_rfl) (by intro w' hSw; go_simp <;> rfl) hZq hHeld ?_; simp only [Act.put, sA, sZ, sS]
      refine gT 14 rfl (by kernel_rfl) (by intro w' hSw; go_simp <;> rfl) hZq hHeld ?_; simp only [Act.put, sA, sZ, sS]
      refine gT 15 rfl (by kernel_rfl) (by intro w' hSw; go_simp <;> rfl) hZq hHeld ?_; simp only [Act.put, sA, sZ, sS]
      refine gT 16 rfl (by kernel_rfl) (by intro w' hSw; go_simp <;> rfl) hZq hHeld ?_; simp only [Act.put, sA, sZ, sS]
      refine gT 17 rfl (by kernel_rfl) (by intro w' hSw; go_simp <;> rfl) hZq hHeld ?_; simp only [Act.put, sA, sZ, sS]
      refine gT 18 rfl (by kernel_rfl) (by intro w' hSw; go_simp <;> rfl) hZq hHeld ?_; simp only [Act.put, sA, sZ, sS]
      refine gT 19 rfl (by kernel_rfl) (by intro w' hSw; go_simp <;> rfl) hZq hHeld ?_; simp only [Act.put, sA, sZ, sS]
      refine gT 20 rfl (by kernel_rfl) (by intro w' hSw; go_simp <;> rfl) hZq hHeld ?_; simp only [Act.put, sA, sZ, sS]
      refine gT 21 rfl (by kernel_rfl) (by intro w' hSw; go_simp <;> rfl) hZq hHeld ?_; simp only [Act.put, sA, sZ, sS]
      refine gT 22 rfl (by kernel_rfl) (by intro w' hSw; go_simp <;> rfl) hZq hHeld ?_; simp only [Act.put, sA, sZ, sS]
      refine gT 23 rfl (by kernel_rfl) (by intro w' hSw; go_simp <;> rfl) hZq hHeld ?_; simp only [Act.put, sA, sZ, sS]
      refine gT 24 rfl (by kernel_rfl) (by intro w' hSw; go_simp <;> rfl) hZq hHeld ?_; simp only [Act.put, sA, sZ, sS]
      refine gT 25 rfl (by kernel_rfl) (by intro w' hSw; go_simp <;> rfl) hZq hHeld ?_; simp only [Act.put, sA, sZ, sS]
      refine wpAnyH_done (by kernel_rfl) ?_ _
      clear hwk
      have HF2 : Hid (rowThen t f (id0 :: l) (-1) seen (bs.drop (k + 1)) id0 = blkGo t f bs none []) := by show _ = _; rw [← blkGo_row hnu]; exact HF1.out
      clear HF1 hnu
      go_wp2_with fail
      go_loopw [7, 9] (fun ov i ws => ∃ (j : Nat) (sn : List Int) (pv : Int), j ≤ n1 ∧ i = .int .i64 j ∧ Hid (rowThen t f ((id0 :: l).drop j) pv sn (bs.drop (k + 1)) id0 = blkGo t f bs none []) ∧ Hid (PrevAt t (id0 :: l) j pv sn) ∧ Hid (SeenOk t sn) ∧ Hid (ws.ownsRow (w.heap.size + 2) 3 1 ov sn.length (sn.map (Value.int .i64))) ∧ Later wb ws) (fun _ i _ => n1 - (intOf i).toNat)
      case atStart => exact ⟨0, seen, -1, by omega, rfl, HF2, .inl ⟨rfl, rfl⟩, HS, ownsRow_later hown.out (inferInstance : Later wr _), inferInstance⟩
      case round =>
       obtain ⟨j, sn, pv, hj, rfl, HG, HP, HS2, hown2, hY⟩ := hrel
       have hsn := HS2.out.len TF.out
       by_cases hjt : j < n1
       ·obtain ⟨b4, o4, v, hA4, hv, hcv, _⟩ := Ints.at_ hi hjt
        cases hA4
        have HG1 : Hid (rowThen t f (v :: (id0 :: l).drop (j + 1)) pv sn (bs.drop (k + 1)) id0 = blkGo t f bs none []) := by show _ = _; rw [← HG.out, drop_at hv.out]
        have HV0 := Lib.hid hv.out
        clear HG hv
        obtain ⟨A9, c9, fp9, hov, ho9, _, _⟩ := OSl.ints_of_own hown2.out (fun y hy => by
         have h1 := HS2.out.bd y hy
         have h2 := Htl.out
         unfold I64; omega)
        subst hov
        have h9 : Ints wr A9 sn.length c9 sn := ho9.reads
        have HO9 := Lib.hid h9
        clear h9
        clear ho9
        by_cases cA : findI t v < 0
        ·have HL := rowThen_bad (t := t) (f := f) (id := v) (l := (id0 :: l).drop (j + 1)) (prev := pv) (seen := sn) (bs := bs.drop (k + 1)) (id0 := id0) (.inl cA)
         have HR : Hid (okBlk t f bs = false) := okBlk_none (HG1.out.symm.trans HL)
         clear HL HG1
         go_wp2_with fail
         go_region_held3 (fun w' => Later wb w' ∧ Later wr w') (exact ⟨inferInstance, inferInstance⟩) (first | (go_at_call 28; refine (spec_l5Find H.out (hwb0.trans inferInstance) v).mono ?_; rintro e w6 ⟨rfl, L6⟩; have X6 := Later.trans (w := wb) inferInstance L6; have Z6 := Later.trans (w := wr) inferInstance L6))
         go_wp2_with fail
         refine gO (S := (fun w' => Later wb w' ∧ Later wr w')) (by kernel_rfl) (by exact ⟨inferInstance, inferInstance⟩) (fun _ _ _ _ _ h => h) (fun hHeld hZq => ?_)
         refine gT 0 rfl (by kernel_rfl) (by intro w' hSw; go_simp <;> rfl) hZq hHeld ?_; simp only [Act.put, sA, sZ, sS]
         refine gT 1 rfl (by kernel_rfl) (by intro w' hSw; go_simp <;> rfl) hZq hHeld ?_; simp only [Act.put, sA, sZ, sS]
         refine gT 2 rfl (by kernel_rfl) (by intro w' hSw; go_simp <;> rfl) hZq hHeld ?_; simp only [Act.put, sA, sZ, sS]
         refine gU 3 rfl (by kernel_rfl) hZq hHeld ?_; simp only [Act.put, sA, sZ, sS]
         refine gU 4 rfl (by kernel_rfl) hZq hHeld ?_; simp only [Act.put, sA, sZ, sS]
         refine gU 5 rfl (by kernel_rfl) hZq hHeld ?_; simp only [Act.put, sA, sZ, sS]
         refine gT 6 rfl (by kernel_rfl) (by intro w' hSw; go_simp <;> rfl) hZq hHeld ?_; simp only [Act.put, sA, sZ, sS]
         refine gT 7 rfl (by kernel_rfl) (by intro w' hSw; go_simp <;> rfl) hZq hHeld ?_; simp only [Act.put, sA, sZ, sS]
         refine gU 8 rfl (by kernel_rfl) hZq hHeld ?_; simp only [Act.put, sA, sZ, sS]
         refine gU 9 rfl (by kernel_rfl) hZq hHeld ?_; simp only [Act.put, sA, sZ, sS]
         refine gU 10 rfl (by kernel_rfl) hZq hHeld ?_; simp only [Act.put, sA, sZ, sS]
         refine gU 11 rfl (by kernel_rfl) hZq hHeld ?_; simp only [Act.put, sA, sZ, sS]
         refine gU 12 rfl (by kernel_rfl) hZq hHeld ?_; simp only [Act.put, sA, sZ, sS]
         refine gU 13 rfl (by kernel_rfl) hZq hHeld ?_; simp only [Act.put, sA, sZ, sS]
         refine gU 14 rfl (by kernel_rfl) hZq hHeld ?_; simp only [Act.put, sA, sZ, sS]
         refine gU 15 rfl (by kernel_rfl) hZq hHeld ?_; simp only [Act.put, sA, sZ, sS]
         refine gU 16 rfl (by kernel_rfl) hZq hHeld ?_; simp only [Act.put, sA, sZ, sS]
         refine gU 17 rfl (by kernel_rfl) hZq hHeld ?_; simp only [Act.put, sA, sZ, sS]
         refine gU 18 rfl (by kernel_rfl) hZq hHeld ?_; simp only [Act.put, sA, sZ, sS]
         refine gU 19 rfl (by kernel_rfl) hZq hHeld ?_; simp only [Act.put, sA, sZ, sS]
         refine gU 20 rfl (by kernel_rfl) hZq hHeld ?_; simp only [Act.put, sA, sZ, sS]
         refine gU 21 rfl (by kernel_rfl) hZq hHeld ?_; simp only [Act.put, sA, sZ, sS]
         refine gU 22 rfl (by kernel_rfl) hZq hHeld ?_; simp only [Act.put, sA, sZ, sS]
         refine gU 23 rfl (by kernel_rfl) hZq hHeld ?_; simp only [Act.put, sA, sZ, sS]
         refine gU 24 rfl (by kernel_rfl) hZq hHeld ?_; simp only [Act.put, sA, sZ, sS]
         refine gU 25 rfl (by kernel_rfl) hZq hHeld ?_; simp only [Act.put, sA, sZ, sS]
         refine gU 26 rfl (by kernel_rfl) hZq hHeld ?_; simp only [Act.put, sA, sZ, sS]
         refine gT 27 rfl (by kernel_rfl) (by intro w' hSw; go_simp <;> rfl) hZq hHeld ?_; simp only [Act.put, sA, sZ, sS]
         refine wpAnyH_done (by kernel_rfl) ?_ _
         go_wp2
         go_ret
         exact ⟨ret_bool HR.out.symm, hww.trans inferInstance⟩
        have cAd : decide (findI t v < 0) = false := decide_eq_false cA
        by_cases cB : findI t v ∈ sn
        ·have HB9 : Hid (decide (findI t v ∈ sn) = true) := decide_eq_true cB
         have HL := rowThen_bad (t := t) (f := f) (id := v) (l := (id0 :: l).drop (j + 1)) (prev := pv) (seen := sn) (bs := bs.drop (k + 1)) (id0 := id0) (.inr (.inl cB))
         clear cB
         have HR : Hid (okBlk t f bs = false) := okBlk_none (HG1.out.symm.trans HL)
         clear HL HG1
         go_wp2_with fail
         go_region_held3 (fun w' => Later wb w' ∧ Later wr w') (exact ⟨inferInstance, inferInstance⟩) (first | (go_at_call 28; refine (spec_l5Find H.out (hwb0.trans inferInstance) v).mono ?_; rintro e w6 ⟨rfl, L6⟩; have X6 := Later.trans (w := wb) inferInstance L6; have Z6 := Later.trans (w := wr) inferInstance L6))
         go_wp2_with fail
         refine gO (S := (fun w' => Later wb w' ∧ Later wr w')) (by kernel_rfl) (by exact ⟨inferInstance, inferInstance⟩) (fun _ _ _ _ _ h => h) (fun hHeld hZq => ?_)
         refine gT 0 rfl (by kernel_rfl) (by intro w' hSw; go_simp <;> rfl) hZq hHeld ?_; simp only [Act.put, sA, sZ, sS]
         refine gT 1 rfl (by kernel_rfl) (by intro w' hSw; go_simp <;> rfl) hZq hHeld ?_; simp only [Act.put, sA, sZ, sS]
         refine gT 2 rfl (by kernel_rfl) (by intro w' hSw; go_simp <;> rfl) hZq hHeld ?_; simp only [Act.put, sA, sZ, sS]
         refine gT 3 rfl (by kernel_rfl) (by intro w' hSw; go_simp <;> rfl) hZq hHeld ?_; simp only [Act.put, sA, sZ, sS]
         refine gT 4 rfl (by kernel_rfl) (by intro w' hSw; go_simp <;> rfl) hZq hHeld ?_; simp only [Act.put, sA, sZ, sS]
         refine gE 5 rfl (by kernel_rfl) (fun K hK => ?_)
         go_simp
         (go_at_call 49; refine (spec_l1Has HO9.out inferInstance _).mono ?_; rw [HB9.out]; rintro e w4 ⟨rfl, L4⟩; have X4 := Later.trans (w := wb) inferInstance L4; have Z4 := Later.trans (w := wr) inferInstance L4)
         refine hK.out _ _ (by exact ⟨inferInstance, inferInstance⟩) (fun hHeld => ?_)
         try simp only [Act.put, sA, sZ, sS]
         refine gT 6 rfl (by kernel_rfl) (by intro w' hSw; go_simp <;> rfl) hZq hHeld ?_; simp only [Act.put, sA, sZ, sS]
         refine gT 7 rfl (by kernel_rfl) (by intro w' hSw; go_simp <;> rfl) hZq hHeld ?_; simp only [Act.put, sA, sZ, sS]
         refine gU 8 rfl (by kernel_rfl) hZq hHeld ?_; simp only [Act.put, sA, sZ, sS]
         refine gU 9 rfl (by kernel_rfl) hZq hHeld ?_; simp only [Act.put, sA, sZ, sS]
         refine gU 10 rfl (by kernel_rfl) hZq hHeld ?_; simp only [Act.put, sA, sZ, sS]
         refine gU 11 rfl (by kernel_rfl) hZq hHeld ?_; simp only [Act.put, sA, sZ, sS]
         refine gU 12 rfl (by kernel_rfl) hZq hHeld ?_; simp only [Act.put, sA, sZ, sS]
         refine gU 13 rfl (by kernel_rfl) hZq hHeld ?_; simp only [Act.put, sA, sZ, sS]
         refine gU 14 rfl (by kernel_rfl) hZq hHeld ?_; simp only [Act.put, sA, sZ, sS]
         refine gU 15 rfl (by kernel_rfl) hZq hHeld ?_; simp only [Act.put, sA, sZ, sS]
         refine gU 16 rfl (by kernel_rfl) hZq hHeld ?_; simp only [Act.put, sA, sZ, sS]
         refine gU 17 rfl (by kernel_rfl) hZq hHeld ?_; simp only [Act.put, sA, sZ, sS]
         refine gU 18 rfl (by kernel_rfl) hZq hHeld ?_; simp only [Act.put, sA, sZ, sS]
         refine gU 19 rfl (by kernel_rfl) hZq hHeld ?_; simp only [Act.put, sA, sZ, sS]
         refine gU 20 rfl (by kernel_rfl) hZq hHeld ?_; simp only [Act.put, sA, sZ, sS]
         refine gU 21 rfl (by kernel_rfl) hZq hHeld ?_; simp only [Act.put, sA, sZ, sS]
         refine gU 22 rfl (by kernel_rfl) hZq hHeld ?_; simp only [Act.put, sA, sZ, sS]
         refine gU 23 rfl (by kernel_rfl) hZq hHeld ?_; simp only [Act.put, sA, sZ, sS]
         refine gU 24 rfl (by kernel_rfl) hZq hHeld ?_; simp only [Act.put, sA, sZ, sS]
         refine gU 25 rfl (by kernel_rfl) hZq hHeld ?_; simp only [Act.put, sA, sZ, sS]
         refine gU 26 rfl (by kernel_rfl) hZq hHeld ?_; simp only [Act.put, sA, sZ, sS]
         refine gT 27 rfl (by kernel_rfl) (by intro w' hSw; go_simp <;> rfl) hZq hHeld ?_; simp only [Act.put, sA, sZ, sS]
         refine wpAnyH_done (by kernel_rfl) ?_ _
         go_wp2
         go_ret
         exact ⟨ret_bool HR.out.symm, hww.trans inferInstance⟩
        have HB9 : Hid (decide (findI t v ∈ sn) = false) := decide_eq_false cB
        have HSN : Hid (SeenOk t (sn ++ [findI t v])) := HS2.out.snoc (by omega) (findI_bd t v).2 cB
        have HP2 : Hid (PrevAt t (id0 :: l) (j + 1) (findI t v) (sn ++ [findI t v])) := .inr ⟨j, v, rfl, HV0.out, rfl, by omega, by simp⟩
        rcases HP.out with ⟨hj0, hpv⟩ | ⟨m, u, hjm, hu0, hpv, hu1, hu2⟩
        ·have HG2 : Hid (rowThen t f ((id0 :: l).drop (j + 1)) (findI t v) (sn ++ [findI t v]) (bs.drop (k + 1)) id0 = blkGo t f bs none []) := by
          show _ = _
          rw [← HG1.out, rowThen_good (by
           unfold rowBad; rw [hpv]
           rintro (h | h | h)
           ·exact cA h
           ·exact cB h
           ·omega)]
         have hj0' : ¬ (0 < (j : Int)) := by omega
         have hj0n : ¬ (0 < j) := by omega
         have hj0d : decide (0 < j) = false := decide_eq_false hj0n
         clear cB HG1 hj0 hpv
         go_wp2_with fail
         go_region_held3 (fun w' => Later wb w' ∧ Later wr w') (exact ⟨inferInstance, inferInstance⟩) (first | (go_at_call 28; refine (spec_l5Find H.out (hwb0.trans inferInstance) v).mono ?_; rintro e w6 ⟨rfl, L6⟩; have X6 := Later.trans (w := wb) inferInstance L6; have Z6 := Later.trans (w := wr) inferInstance L6))
         go_wp2_with fail
         refine gO (S := (fun w' => Later wb w' ∧ Later wr w')) (by kernel_rfl) (by exact ⟨inferInstance, inferInstance⟩) (fun _ _ _ _ _ h => h) (fun hHeld hZq => ?_)
         refine gT 0 rfl (by kernel_rfl) (by intro w' hSw; go_simp <;> rfl) hZq hHeld ?_; simp only [Act.put, sA, sZ, sS]
         refine gT 1 rfl (by kernel_rfl) (by intro w' hSw; go_simp <;> rfl) hZq hHeld ?_; simp only [Act.put, sA, sZ, sS]
         refine gT 2 rfl (by kernel_rfl) (by intro w' hSw; go_simp <;> rfl) hZq hHeld ?_; simp only [Act.put, sA, sZ, sS]
         refine gT 3 rfl (by kernel_rfl) (by intro w' hSw; go_simp <;> rfl) hZq hHeld ?_; simp only [Act.put, sA, sZ, sS]
         refine gT 4 rfl (by kernel_rfl) (by intro w' hSw; go_simp <;> rfl) hZq hHeld ?_; simp only [Act.put, sA, sZ, sS]
         refine gE 5 rfl (by kernel_rfl) (fun K hK => ?_)
         go_simp
         (go_at_call 49; refine (spec_l1Has HO9.out inferInstance _).mono ?_; rw [HB9.out]; rintro e w4 ⟨rfl, L4⟩; have X4 := Later.trans (w := wb) inferInstance L4; have Z4 := Later.trans (w := wr) inferInstance L4)
         refine hK.out _ _ (by exact ⟨inferInstance, inferInstance⟩) (fun hHeld => ?_)
         try simp only [Act.put, sA, sZ, sS]
         refine gT 6 rfl (by kernel_rfl) (by intro w' hSw; go_simp <;> rfl) hZq hHeld ?_; simp only [Act.put, sA, sZ, sS]
         refine gT 7 rfl (by kernel_rfl) (by intro w' hSw; go_simp <;> rfl) hZq hHeld ?_; simp only [Act.put, sA, sZ, sS]
         refine gT 8 rfl (by kernel_rfl) (by intro w' hSw; go_simp <;> rfl) hZq hHeld ?_; simp only [Act.put, sA, sZ, sS]
         refine gT 9 rfl (by kernel_rfl) (by intro w' hSw; go_simp <;> rfl) hZq hHeld ?_; simp only [Act.put, sA, sZ, sS]
         refine gT 10 rfl (by kernel_rfl) (by intro w' hSw; go_simp <;> rfl) hZq hHeld ?_; simp only [Act.put, sA, sZ, sS]
         refine gU 11 rfl (by kernel_rfl) hZq hHeld ?_; simp only [Act.put, sA, sZ, sS]
         refine gU 12 rfl (by kernel_rfl) hZq hHeld ?_; simp only [Act.put, sA, sZ, sS]
         refine gU 13 rfl (by kernel_rfl) hZq hHeld ?_; simp only [Act.put, sA, sZ, sS]
         refine gU 14 rfl (by kernel_rfl) hZq hHeld ?_; simp only [Act.put, sA, sZ, sS]
         refine gU 15 rfl (by kernel_rfl) hZq hHeld ?_; simp only [Act.put, sA, sZ, sS]
         refine gU 16 rfl (by kernel_rfl) hZq hHeld ?_; simp only [Act.put, sA, sZ, sS]
         refine gU 17 rfl (by kernel_rfl) hZq hHeld ?_; simp only [Act.put, sA, sZ, sS]
         refine gU 18 rfl (by kernel_rfl) hZq hHeld ?_; simp only [Act.put, sA, sZ, sS]
         refine gU 19 rfl (by kernel_rfl) hZq hHeld ?_; simp only [Act.put, sA, sZ, sS]
         refine gU 20 rfl (by kernel_rfl) hZq hHeld ?_; simp only [Act.put, sA, sZ, sS]
         refine gU 21 rfl (by kernel_rfl) hZq hHeld ?_; simp only [Act.put, sA, sZ, sS]
         refine gU 22 rfl (by kernel_rfl) hZq hHeld ?_; simp only [Act.put, sA, sZ, sS]
         refine gU 23 rfl (by kernel_rfl) hZq hHeld ?_; simp only [Act.put, sA, sZ, sS]
         refine gU 24 rfl (by kernel_rfl) hZq hHeld ?_; simp only [Act.put, sA, sZ, sS]
         refine gU 25 rfl (by kernel_rfl) hZq hHeld ?_; simp only [Act.put, sA, sZ, sS]
         refine gT 26 rfl (by kernel_rfl) (by intro w' hSw; go_simp <;> rfl) hZq hHeld ?_; simp only [Act.put, sA, sZ, sS]
         refine gT 27 rfl (by kernel_rfl) (by intro w' hSw; go_simp <;> rfl) hZq hHeld ?_; simp only [Act.put, sA, sZ, sS]
         refine wpAnyH_done (by kernel_rfl) ?_ _
         go_wp2_with (at_builtin; refine wpList_app_B rfl _ _ 66 rfl Tryz.underlying66 infoInt rfl (by decide) (by decide) rfl (by exact ownsRow_later hown2.out (inferInstance : Later wr w4)) (inferInstance : Later wb w4) hbs (by have := Later.size (w := wb) (W := w4) inferInstance; omega) rfl rfl (one_cell _ _) (by omega) ?_; intro v' w8 hown' hX')
         go_roundw
         case rel => exact ⟨j + 1, sn ++ [findI t v], findI t v, by omega, by go_num, HG2, HP2, HSN, by show World.ownsRow _ _ _ _ _ _ _; rw [List.map_append, List.length_append]; exact hown', inferInstance⟩
         case measure => simp [intOf]; omega
        ·have hmn : m < n1 := by omega
         obtain ⟨b5, o5, u', hA5, hu', hcu, _⟩ := Ints.at_ hi hmn
         cases hA5
         obtain rfl : u' = u := Option.some.inj (hu'.out.symm.trans hu0)
         have hwj : IntKind.i64.wrap ((j : Int) - 1) = (m : Int) := by rw [IntKind.wrap_i64]; omega
         have hj0' : 0 < (j : Int) := by omega
         have hj0n : 0 < j := by omega
         have k3 := (findI_bd t u').2
         have k4 := (findI_bd t v).2
         have KK := Lib.hid (And.intro hu1 (And.intro k3 (And.intro (show 0 ≤ findI t v by omega) k4)))
         have TY := Lib.hid (tripI_facts TF.out hu1 k3)
         have TX := Lib.hid (tripI_facts TF.out (show 0 ≤ findI t v by omega) k4)
         have HNE : Hid (findI t u' ≠ findI t v) := fun e => cB (e ▸ hu2)
         by_cases cF : canF t f (tripI t (findI t u')) (tripI t (findI t v)) = true
         ·have HG2 : Hid (rowThen t f ((id0 :: l).drop (j + 1)) (findI t v) (sn ++ [findI t v]) (bs.drop (k + 1)) id0 = blkGo t f bs none []) := by
           show _ = _
           rw [← HG1.out, rowThen_good (by
            unfold rowBad; rw [hpv, cF]
            rintro (h | h | h)
            ·exact cA h
            ·exact cB h
            ·exact absurd h.2 (by simp))]
          clear cB HG1 hpv hu0 hu1 hu2 hu' k3 k4 hjm
          go_wp2_with fail
          go_region_held3 (fun w' => Later wb w' ∧ Later wr w') (exact ⟨inferInstance, inferInstance⟩) (first | (go_at_call 28; refine (spec_l5Find H.out (hwb0.trans inferInstance) v).mono ?_; rintro e w6 ⟨rfl, L6⟩; have X6 := Later.trans (w := wb) inferInstance L6; have Z6 := Later.trans (w := wr) inferInstance L6))
          go_wp2_with fail
          refine gO (S := (fun w' => Later wb w' ∧ Later wr w')) (by kernel_rfl) (by exact ⟨inferInstance, inferInstance⟩) (fun _ _ _ _ _ h => h) (fun hHeld hZq => ?_)
          refine gT 0 rfl (by kernel_rfl) (by intro w' hSw; go_simp <;> rfl) hZq hHeld ?_; simp only [Act.put, sA, sZ, sS]
          refine gT 1 rfl (by kernel_rfl) (by intro w' hSw; go_simp <;> rfl) hZq hHeld ?_; simp only [Act.put, sA, sZ, sS]
          refine gT 2 rfl (by kernel_rfl) (by intro w' hSw; go_simp <;> rfl) hZq hHeld ?_; simp only [Act.put, sA, sZ, sS]
          refine gT 3 rfl (by kernel_rfl) (by intro w' hSw; go_simp <;> rfl) hZq hHeld ?_; simp only [Act.put, sA, sZ, sS]
          refine gT 4 rfl (by kernel_rfl) (by intro w' hSw; go_simp <;> rfl) hZq hHeld ?_; simp only [Act.put, sA, sZ, sS]
          refine gE 5 rfl (by kernel_rfl) (fun K hK => ?_)
          go_simp
          (go_at_call 49; refine (spec_l1Has HO9.out inferInstance _).mono ?_; rw [HB9.out]; rintro e w4 ⟨rfl, L4⟩; have X4 := Later.trans (w := wb) inferInstance L4; have Z4 := Later.trans (w := wr) inferInstance L4)
          refine hK.out _ _ (by exact ⟨inferInstance, inferInstance⟩) (fun hHeld => ?_)
          try simp only [Act.put, sA, sZ, sS]
          refine gT 6 rfl (by kernel_rfl) (by intro w' hSw; go_simp <;> rfl) hZq hHeld ?_; simp only [Act.put, sA, sZ, sS]
          refine gT 7 rfl (by kernel_rfl) (by intro w' hSw; go_simp <;> rfl) hZq hHeld ?_; simp only [Act.put, sA, sZ, sS]
          refine gT 8 rfl (by kernel_rfl) (by intro w' hSw; go_simp <;> rfl) hZq hHeld ?_; simp only [Act.put, sA, sZ, sS]
          refine gT 9 rfl (by kernel_rfl) (by intro w' hSw; go_simp <;> rfl) hZq hHeld ?_; simp only [Act.put, sA, sZ, sS]
          refine gT 10 rfl (by kernel_rfl) (by intro w' hSw; go_simp <;> rfl) hZq hHeld ?_; simp only [Act.put, sA, sZ, sS]
          refine gT 11 rfl (by kernel_rfl) (by intro w' hSw; go_simp <;> rfl) hZq hHeld ?_; simp only [Act.put, sA, sZ, sS]
          refine gT 12 rfl (by kernel_rfl) (by intro w' hSw; go_simp <;> rfl) hZq hHeld ?_; simp only [Act.put, sA, sZ, sS]
          refine gT 13 rfl (by kernel_rfl) (by intro w' hSw; go_simp <;> rfl) hZq hHeld ?_; simp only [Act.put, sA, sZ, sS]
          refine gT 14 rfl (by kernel_rfl) (by intro w' hSw; go_simp <;> rfl) hZq hHeld ?_; simp only [Act.put, sA, sZ, sS]
          refine gT 15 rfl (by kernel_rfl) (by intro w' hSw; go_simp <;> rfl) hZq hHeld ?_; simp only [Act.put, sA, sZ, sS]
          refine gT 16 rfl (by kernel_rfl) (by intro w' hSw; go_simp <;> rfl) hZq hHeld ?_; simp only [Act.put, sA, sZ, sS]
          refine gT 17 rfl (by kernel_rfl) (by intro w' hSw; go_simp <;> rfl) hZq hHeld ?_; simp only [Act.put, sA, sZ, sS]
          refine gT 18 rfl (by kernel_rfl) (by intro w' hSw; go_simp <;> rfl) hZq hHeld ?_; simp only [Act.put, sA, sZ, sS]
          refine gT 19 rfl (by kernel_rfl) (by intro w' hSw; go_simp <;> rfl) hZq hHeld ?_; simp only [Act.put, sA, sZ, sS]
          refine gT 20 rfl (by kernel_rfl) (by intro w' hSw; go_simp <;> rfl) hZq hHeld ?_; simp only [Act.put, sA, sZ, sS]
          refine gT 21 rfl (by kernel_rfl) (by intro w' hSw; go_simp <;> rfl) hZq hHeld ?_; simp only [Act.put, sA, sZ, sS]
          refine gT 23 rfl (by kernel_rfl) (by intro w' hSw; go_simp <;> rfl) hZq hHeld ?_; simp only [Act.put, sA, sZ, sS]
          refine gE 22 rfl (by kernel_rfl) (fun K hK => ?_)
          go_simp
          (go_at_call 28; refine (spec_l5Find H.out (hwb0.trans inferInstance) u').mono ?_; rintro e w7 ⟨rfl, L7⟩; have X7 := Later.trans (w := wb) inferInstance L7; have Z7 := Later.trans (w := wr) inferInstance L7)
          refine hK.out _ _ (by exact ⟨inferInstance, inferInstance⟩) (fun hHeld => ?_)
          try simp only [Act.put, sA, sZ, sS]
          refine gE 24 rfl (by kernel_rfl) (fun K hK => ?_)
          go_simp
          (go_at_call 108; refine (spec_l11Follows H.out (hwb0.trans inferInstance) H2.out (hwb2.trans inferInstance) TF.out.net FF.out _ _ KK.out.1 KK.out.2.1 KK.out.2.2.1 KK.out.2.2.2 TY.out TX.out HNE.out).mono ?_; rintro e w5 ⟨rfl, L5⟩; have X5 := Later.trans (w := wb) inferInstance L5; have Z5 := Later.trans (w := wr) inferInstance L5)
          refine hK.out _ _ (by exact ⟨inferInstance, inferInstance⟩) (fun hHeld => ?_)
          try simp only [Act.put, sA, sZ, sS]
          refine gT 25 rfl (by kernel_rfl) (by intro w' hSw; go_simp <;> rfl) hZq hHeld ?_; simp only [Act.put, sA, sZ, sS]
          refine gT 26 rfl (by kernel_rfl) (by intro w' hSw; go_simp <;> rfl) hZq hHeld ?_; simp only [Act.put, sA, sZ, sS]
          refine gT 27 rfl (by kernel_rfl) (by intro w' hSw; go_simp <;> rfl) hZq hHeld ?_; simp only [Act.put, sA, sZ, sS]
          refine wpAnyH_done (by kernel_rfl) ?_ _
          clear hwj
          go_wp2_with (at_builtin; refine wpList_app_B rfl _ _ 66 rfl Tryz.underlying66 infoInt rfl (by decide) (by decide) rfl (by exact ownsRow_later hown2.out (inferInstance : Later wr w5)) (inferInstance : Later wb w5) hbs (by have := Later.size (w := wb) (W := w5) inferInstance; omega) rfl rfl (one_cell _ _) (by omega) ?_; intro v' w8 hown' hX')
          go_roundw
          case rel => exact ⟨j + 1, sn ++ [findI t v], findI t v, by omega, by go_num, HG2, HP2, HSN, by show World.ownsRow _ _ _ _ _ _ _; rw [List.map_append, List.length_append]; exact hown', inferInstance⟩
          case measure => simp [intOf]; omega
         ·have cG : canF t f (tripI t (findI t u')) (tripI t (findI t v)) = false := by simpa using cF
          have HL := rowThen_bad (t := t) (f := f) (id := v) (l := (id0 :: l).drop (j + 1)) (prev := pv) (seen := sn) (bs := bs.drop (k + 1)) (id0 := id0) (.inr (.inr ⟨by omega, by rw [hpv]; exact cG⟩))
          clear cB cF hpv hu0 hu1 hu2 hu' k3 k4 hjm
          have HR : Hid (okBlk t f bs = false) := okBlk_none (HG1.out.symm.trans HL)
          clear HL HG1
          go_wp2_with fail
          go_region_held3 (fun w' => Later wb w' ∧ Later wr w') (exact ⟨inferInstance, inferInstance⟩) (first | (go_at_call 28; refine (spec_l5Find H.out (hwb0.trans inferInstance) v).mono ?_; rintro e w6 ⟨rfl, L6⟩; have X6 := Later.trans (w := wb) inferInstance L6; have Z6 := Later.trans (w := wr) inferInstance L6))
          go_wp2_with fail
          refine gO (S := (fun w' => Later wb w' ∧ Later wr w')) (by kernel_rfl) (by exact ⟨inferInstance, inferInstance⟩) (fun _ _ _ _ _ h => h) (fun hHeld hZq => ?_)
          refine gT 0 rfl (by kernel_rfl) (by intro w' hSw; go_simp <;> rfl) hZq hHeld ?_; simp only [Act.put, sA, sZ, sS]
          refine gT 1 rfl (by kernel_rfl) (by intro w' hSw; go_simp <;> rfl) hZq hHeld ?_; simp only [Act.put, sA, sZ, sS]
          refine gT 2 rfl (by kernel_rfl) (by intro w' hSw; go_simp <;> rfl) hZq hHeld ?_; simp only [Act.put, sA, sZ, sS]
          refine gT 3 rfl (by kernel_rfl) (by intro w' hSw; go_simp <;> rfl) hZq hHeld ?_; simp only [Act.put, sA, sZ, sS]
          refine gT 4 rfl (by kernel_rfl) (by intro w' hSw; go_simp <;> rfl) hZq hHeld ?_; simp only [Act.put, sA, sZ, sS]
          refine gE 5 rfl (by kernel_rfl) (fun K hK => ?_)
          go_simp
          (go_at_call 49; refine (spec_l1Has HO9.out inferInstance _).mono ?_; rw [HB9.out]; rintro e w4 ⟨rfl, L4⟩; have X4 := Later.trans (w := wb) inferInstance L4; have Z4 := Later.trans (w := wr) inferInstance L4)
          refine hK.out _ _ (by exact ⟨inferInstance, inferInstance⟩) (fun hHeld => ?_)
          try simp only [Act.put, sA, sZ, sS]
          refine gT 6 rfl (by kernel_rfl) (by intro w' hSw; go_simp <;> rfl) hZq hHeld ?_; simp only [Act.put, sA, sZ, sS]
          refine gT 7 rfl (by kernel_rfl) (by intro w' hSw; go_simp <;> rfl) hZq hHeld ?_; simp only [Act.put, sA, sZ, sS]
          refine gT 8 rfl (by kernel_rfl) (by intro w' hSw; go_simp <;> rfl) hZq hHeld ?_; simp only [Act.put, sA, sZ, sS]
          refine gT 9 rfl (by kernel_rfl) (by intro w' hSw; go_simp <;> rfl) hZq hHeld ?_; simp only [Act.put, sA, sZ, sS]
          refine gT 10 rfl (by kernel_rfl) (by intro w' hSw; go_simp <;> rfl) hZq hHeld ?_; simp only [Act.put, sA, sZ, sS]
          refine gT 11 rfl (by kernel_rfl) (by intro w' hSw; go_simp <;> rfl) hZq hHeld ?_; simp only [Act.put, sA, sZ, sS]
          refine gT 12 rfl (by kernel_rfl) (by intro w' hSw; go_simp <;> rfl) hZq hHeld ?_; simp only [Act.put, sA, sZ, sS]
          refine gT 13 rfl (by kernel_rfl) (by intro w' hSw; go_simp <;> rfl) hZq hHeld ?_; simp only [Act.put, sA, sZ, sS]
          refine gT 14 rfl (by kernel_rfl) (by intro w' hSw; go_simp <;> rfl) hZq hHeld ?_; simp only [Act.put, sA, sZ, sS]
          refine gT 15 rfl (by kernel_rfl) (by intro w' hSw; go_simp <;> rfl) hZq hHeld ?_; simp only [Act.put, sA, sZ, sS]
          refine gT 16 rfl (by kernel_rfl) (by intro w' hSw; go_simp <;> rfl) hZq hHeld ?_; simp only [Act.put, sA, sZ, sS]
          refine gT 17 rfl (by kernel_rfl) (by intro w' hSw; go_simp <;> rfl) hZq hHeld ?_; simp only [Act.put, sA, sZ, sS]
          refine gT 18 rfl (by kernel_rfl) (by intro w' hSw; go_simp <;> rfl) hZq hHeld ?_; simp only [Act.put, sA, sZ, sS]
          refine gT 19 rfl (by kernel_rfl) (by intro w' hSw; go_simp <;> rfl) hZq hHeld ?_; simp only [Act.put, sA, sZ, sS]
          refine gT 20 rfl (by kernel_rfl) (by intro w' hSw; go_simp <;> rfl) hZq hHeld ?_; simp only [Act.put, sA, sZ, sS]
          refine gT 21 rfl (by kernel_rfl) (by intro w' hSw; go_simp <;> rfl) hZq hHeld ?_; simp only [Act.put, sA, sZ, sS]
          refine gT 23 rfl (by kernel_rfl) (by intro w' hSw; go_simp <;> rfl) hZq hHeld ?_; simp only [Act.put, sA, sZ, sS]
          refine gE 22 rfl (by kernel_rfl) (fun K hK => ?_)
          go_simp
          (go_at_call 28; refine (spec_l5Find H.out (hwb0.trans inferInstance) u').mono ?_; rintro e w7 ⟨rfl, L7⟩; have X7 := Later.trans (w := wb) inferInstance L7; have Z7 := Later.trans (w := wr) inferInstance L7)
          refine hK.out _ _ (by exact ⟨inferInstance, inferInstance⟩) (fun hHeld => ?_)
          try simp only [Act.put, sA, sZ, sS]
          refine gE 24 rfl (by kernel_rfl) (fun K hK => ?_)
          go_simp
          (go_at_call 108; refine (spec_l11Follows H.out (hwb0.trans inferInstance) H2.out (hwb2.trans inferInstance) TF.out.net FF.out _ _ KK.out.1 KK.out.2.1 KK.out.2.2.1 KK.out.2.2.2 TY.out TX.out HNE.out).mono ?_; rintro e w5 ⟨rfl, L5⟩; have X5 := Later.trans (w := wb) inferInstance L5; have Z5 := Later.trans (w := wr) inferInstance L5)
          refine hK.out _ _ (by exact ⟨inferInstance, inferInstance⟩) (fun hHeld => ?_)
          try simp only [Act.put, sA, sZ, sS]
          refine gT 25 rfl (by kernel_rfl) (by intro w' hSw; go_simp <;> rfl) hZq hHeld ?_; simp only [Act.put, sA, sZ, sS]
          refine gT 26 rfl (by kernel_rfl) (by intro w' hSw; go_simp <;> rfl) hZq hHeld ?_; simp only [Act.put, sA, sZ, sS]
          refine gT 27 rfl (by kernel_rfl) (by intro w' hSw; go_simp <;> rfl) hZq hHeld ?_; simp only [Act.put, sA, sZ, sS]
          refine wpAnyH_done (by kernel_rfl) ?_ _
          clear hwj
          go_wp2
          go_ret
          exact ⟨ret_bool HR.out.symm, hww.trans inferInstance⟩
       ·have HF3 : Hid (blkGo t f (bs.drop (k + 1)) (some id0) sn = blkGo t f bs none []) := by
         have h3 := HG.out
         rw [List.drop_eq_nil_of_le (by have := Hxl.out; omega)] at h3
         exact h3
        clear HG
        go_wp2
        go_roundw
        case rel => exact ⟨k + 1, sn, some id0, by omega, by go_num, HF3, .inr ⟨k, id0, l, rfl, HX.out, rfl⟩, HS2, ownsRow_later hown2.out (inferInstance : Later wr _), inferInstance⟩
        case measure => simp [intOf]; omega
  ·have HF1 : Hid (okBlk t f bs = decide (seen.length = t.Trips.length)) := by
    have h3 := HF.out
    rw [List.drop_eq_nil_of_le (by have := Hbl.out; omega)] at h3
    exact okBlk_some h3.symm
   clear HF
   obtain ⟨A9, c9, fp9, hov, ho9, _, _⟩ := OSl.ints_of_own hown.out (fun y hy => by
    have h1 := HS.out.bd y hy
    have h2 := Htl.out
    unfold I64; omega)
   subst hov
   have hl9 := HS.out.len TF.out
   clear ho9
   go_wp2
   go_ret
   exact ⟨ret_bool (by rw [HF1.out, Htl.out, Bool.eq_iff_iff]; simp <;> omega), hww.trans inferInstance⟩
end Go.Proofs.YtknhebakebmlcaaGreat
