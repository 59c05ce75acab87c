/-
 FewestDuties: the program's fewestDuties and FewestDuties.
-/
import Derived.Test.YtknhebakebmlcaaGreatDpO
import Derived.Test.YtknhebakebmlcaaGreatDpR
namespace Go.Proofs.YtknhebakebmlcaaGreat
open Go Go.RowKit
set_option linter.unusedVariables false
set_option maxRecDepth 100000
set_option linter.unusedSimpArgs false
/-- The best cutter so far, as it lies in memory; nothing of it lies in the block g0 or below. -/
def BestSt (tc : TypeId) (t : Timetable) (f : Fleet) (bs : List (List Int)) (r : Rules) (W : World) (g0 : Nat) (bv av : Value) : Option (Nat × (Int × Int)) → Prop
 | none => bv = .pointer none ∧ av = .int .i64 0
 | some x => av = .int .i64 (x.1 : Int) ∧ ∃ (gx gs gp b : Nat) (g : Nat → Nat) (pA : Option Addr) (pc hi cnt : Nat) (fps : List (List Nat)), bv = .pointer (some ⟨gx, 0, none⟩) ∧
   PcsO W (g0 + 1) hi pA (cutAll t (x.1 : Int) bs).length pc (cutAll t (x.1 : Int) bs) fps ∧ hi ≤ b ∧
   CutOK tc (cutAll t (x.1 : Int) bs).length (pcA t f bs r (cutAll t (x.1 : Int) bs)) (pcP t f bs r (cutAll t (x.1 : Int) bs)) W (.slice pA (cutAll t (x.1 : Int) bs).length pc) gx gs gp b g ∧
   CutNew (g0 + 1) (cutAll t (x.1 : Int) bs).length gx gs gp b g ∧
   MemoOK (memoB (cutAll t (x.1 : Int) bs).length (pcA t f bs r (cutAll t (x.1 : Int) bs)) (pcP t f bs r (cutAll t (x.1 : Int) bs))) W b cnt ∧ cnt ≤ 1000000000
theorem BestSt.touch {tc : TypeId} {t : Timetable} {f : Fleet} {bs : List (List Int)} {r : Rules} {W W' : World} {g0 : Nat} {bv av : Value} {o : Option (Nat × (Int × Int))} {fp : List Nat} (h : BestSt tc t f bs r W g0 bv av o) (hT : Touch fp W W') (hf : ∀ z, z ∈ fp → z ≤ g0 ∨ W.heap.size ≤ z) : BestSt tc t f bs r W' g0 bv av o := by
 cases o with
 | none => exact h
 | some x =>
  obtain ⟨h1, gx, gs, gp, b, g, pA, pc, hi, cnt, fps, h2, h3, h4, h5, h6, h7, h8⟩ := h
  have hb := h7.lt
  refine ⟨h1, gx, gs, gp, b, g, pA, pc, hi, cnt, fps, h2, h3.touch hT fun z hz => ?_, h4, h5.touchN h6 hT fun z hz => ?_, h6, h7.touch hT fun hm => ?_, h8⟩
  ·rcases hf z hz with e | e <;> omega
  ·rcases hf z hz with e | e <;> omega
  ·have := h6.b
   rcases hf b hm with e | e <;> omega
set_option maxHeartbeats 8000000 in
theorem impl_fewestDuties {w0 w w2 w3 : World} {sA0 : Option Addr} {sn0 sc0 : Nat} {sA1 : Option Addr} {sn1 sc1 : Nat} {sA2 : Option Addr} {sn2 sc2 : Nat} {t : Timetable} (h : TimetableAt w0 sA0 sn0 sc0 sA1 sn1 sc1 sA2 sn2 sc2 t) (hl : Later w0 w) {qA0 : Option Addr} {qn0 qc0 : Nat} {f : Fleet} (h2 : FleetAt w2 qA0 qn0 qc0 f) (hl2 : Later w2 w) {bA : Option Addr} {bn bc : Nat} {bs : List (List Int)} (h3 : Sl 1 (rSl 1 rInt) w3 bA bn bc bs) (hl3 : Later w3 w) (r : Rules) (hok : okRuled t f bs r = true) : Calls Tryz.prog 41 #[.agg #[.slice sA0 sn0 sc0, .slice sA1 sn1 sc1, .slice sA2 sn2 sc2], .agg #[.slice qA0 qn0 qc0, .int .i64 f.Turn], .slice bA bn bc, .agg #[.int .i64 r.SignOn, .int .i64 r.SignOff, .int .i64 r.MaxDrive, .int .i64 r.MinBreak, .int .i64 r.PaidBreak, .int .i64 r.MaxLength]] w (RetD4 (fdRes t f bs r) w) := by
 have hT := h.l_Trips.later hl
 have HB0 : ∀ W [Later (((w.alloc (.cells #[.slice sA0 sn0 sc0, .slice sA1 sn1 sc1, .slice sA2 sn2 sc2] 44)).alloc (.cells #[.slice qA0 qn0 qc0, .int .i64 f.Turn] 46)).alloc (.cells #[.int .i64 r.SignOn, .int .i64 r.SignOff, .int .i64 r.MaxDrive, .int .i64 r.MinBreak, .int .i64 r.PaidBreak, .int .i64 r.MaxLength] 49)) W] (j : Nat), W.cell? ⟨w.heap.size, j, none⟩ = #[.slice sA0 sn0 sc0, .slice sA1 sn1 sc1, .slice sA2 sn2 sc2][j]? := Later.boxes (t := 44) (fr := (0, 0)) ((heap_old (by simp; try omega)).trans ((heap_old (by simp; try omega)).trans (heap_new (by simp; try omega)))); have HB1 : ∀ W [Later (((w.alloc (.cells #[.slice sA0 sn0 sc0, .slice sA1 sn1 sc1, .slice sA2 sn2 sc2] 44)).alloc (.cells #[.slice qA0 qn0 qc0, .int .i64 f.Turn] 46)).alloc (.cells #[.int .i64 r.SignOn, .int .i64 r.SignOff, .int .i64 r.MaxDrive, .int .i64 r.MinBreak, .int .i64 r.PaidBreak, .int .i64 r.MaxLength] 49)) W] (j : Nat), W.cell? ⟨w.heap.size + 1, j, none⟩ = #[.slice qA0 qn0 qc0, .int .i64 f.Turn][j]? := Later.boxes (t := 46) (fr := (0, 0)) ((heap_old (by simp; try omega)).trans (heap_new (by simp; try omega))); have HB2 : ∀ W [Later (((w.alloc (.cells #[.slice sA0 sn0 sc0, .slice sA1 sn1 sc1, .slice sA2 sn2 sc2] 44)).alloc (.cells #[.slice qA0 qn0 qc0, .int .i64 f.Turn] 46)).alloc (.cells #[.int .i64 r.SignOn, .int .i64 r.SignOff, .int .i64 r.MaxDrive, .int .i64 r.MinBreak, .int .i64 r.PaidBreak, .int .i64 r.MaxLength] 49)) W] (j : Nat), W.cell? ⟨w.heap.size + 1 + 1, j, none⟩ = #[.int .i64 r.SignOn, .int .i64 r.SignOff, .int .i64 r.MaxDrive, .int .i64 r.MinBreak, .int .i64 r.PaidBreak, .int .i64 r.MaxLength][j]? := Later.boxes (t := 49) (fr := (0, 0)) (heap_new (by simp; try omega)); obtain ⟨wb, hwb⟩ : ∃ wb : World, wb = (((w.alloc (.cells #[.slice sA0 sn0 sc0, .slice sA1 sn1 sc1, .slice sA2 sn2 sc2] 44)).alloc (.cells #[.slice qA0 qn0 qc0, .int .i64 f.Turn] 46)).alloc (.cells #[.int .i64 r.SignOn, .int .i64 r.SignOff, .int .i64 r.MaxDrive, .int .i64 r.MinBreak, .int .i64 r.PaidBreak, .int .i64 r.MaxLength] 49)) := ⟨_, rfl⟩; haveI hbW : Later wb (((w.alloc (.cells #[.slice sA0 sn0 sc0, .slice sA1 sn1 sc1, .slice sA2 sn2 sc2] 44)).alloc (.cells #[.slice qA0 qn0 qc0, .int .i64 f.Turn] 46)).alloc (.cells #[.int .i64 r.SignOn, .int .i64 r.SignOff, .int .i64 r.MaxDrive, .int .i64 r.MinBreak, .int .i64 r.PaidBreak, .int .i64 r.MaxLength] 49)) := (by rw [hwb]; exact Later.rfl_); haveI hww : Later w wb := (by rw [hwb]; infer_instance); rw [← hwb] at HB0; rw [← hwb] at HB1; rw [← hwb] at HB2; have hbE := Lib.hid (congrArg (fun x : World => x.heap.size) hwb); clear hwb
 have hwb0 := hl.trans hww
 have hwb2 := hl2.trans hww
 have hwb3 := hl3.trans hww
 have H := Lib.hid h
 have H2 := Lib.hid h2
 have H3 := Lib.hid h3
 clear h h2 h3
 have Htl := Lib.hid hT.len
 have hsl := hT.le
 have hwb := Lib.hid hbE.out
 clear hT hbE
 have HOK := Lib.hid hok
 clear hok
 by_cases c8 : sn2 ≤ 8
 rotate_left
 ·have c8i : (8 : Int) < (sn2 : Int) := by omega
  rw [show fdRes t f bs r = ([], 0, 0, false) from if_neg (by have := Htl.out; omega)]
  clear c8
  go_enter Tryz.func41, Tryz.ntmps41
  go_wp2
  (try simp only [Exit.inBlock, Exit.then])
  refine bodyPost_ret (v := .tuple #[.slice none 0 0, .int .i64 (0), .int .i64 (0), .bool false]) (by simp [results, Tryz.results41, go_sem]) rfl ?_
  exact ⟨_, _, _, [], rfl, OSl.nil_ _, by simp, by simp, hww.trans inferInstance⟩
 have c8i : ¬ (8 : Int) < (sn2 : Int) := by omega
 have H8 : Hid (t.Trips.length ≤ 8) := by show _ ≤ _; have := Htl.out; omega
 rw [show fdRes t f bs r = fdOut t f bs r (cutBest t f bs r (2 ^ t.Trips.length)) from if_pos ⟨HOK.out, H8.out⟩]
 rw [show 2 ^ t.Trips.length = 2 ^ sn2 by rw [Htl.out]]
 have DF := Lib.hid (deadFacts (okRuled_blocks HOK.out))
 have H12 := Lib.hid (flat12 (okRuled_blocks HOK.out))
 have h256 := pow256 c8
 obtain ⟨N, hN⟩ : ∃ N, N = 2 ^ sn2 := ⟨_, rfl⟩
 have hsh : IntKind.i64.wrap ((2 : Int) ^ sn2) = (N : Int) := by
  rw [show (2 : Int) ^ sn2 = (N : Int) by rw [hN]; simp, IntKind.wrap_i64]
  omega
 have hsn64 : (sn2 : Int) ≤ 64 := by omega
 rw [← hN] at h256 ⊢
 clear hN c8
 have hmw : Hid (w.heap.size + 1 + 1 + 1 = wb.heap.size) := by show _ = _; simpa using hwb.out.symm
 go_enter Tryz.func41, Tryz.ntmps41
 go_wp2_with fail
 obtain ⟨Wl, hWl⟩ : ∃ Wl : World, Wl = (((w.alloc (.cells #[.slice sA0 sn0 sc0, .slice sA1 sn1 sc1, .slice sA2 sn2 sc2] 44)).alloc (.cells #[.slice qA0 qn0 qc0, .int .i64 f.Turn] 46)).alloc (.cells #[.int .i64 r.SignOn, .int .i64 r.SignOff, .int .i64 r.MaxDrive, .int .i64 r.MinBreak, .int .i64 r.PaidBreak, .int .i64 r.MaxLength] 49)).alloc (.cells #[.int .i64 1073741824, .int .i64 0] 110) := ⟨_, rfl⟩
 rw [← hWl]
 haveI hLl : Later wb Wl := by rw [hWl]; infer_instance
 have hP0 : Blk Wl (w.heap.size + 1 + 1 + 1) 110 #[.int .i64 1073741824, .int .i64 0] := by
  have h9 := Blk.new (((w.alloc (.cells #[.slice sA0 sn0 sc0, .slice sA1 sn1 sc1, .slice sA2 sn2 sc2] 44)).alloc (.cells #[.slice qA0 qn0 qc0, .int .i64 f.Turn] 46)).alloc (.cells #[.int .i64 r.SignOn, .int .i64 r.SignOff, .int .i64 r.MaxDrive, .int .i64 r.MinBreak, .int .i64 r.PaidBreak, .int .i64 r.MaxLength] 49)) 110 #[.int .i64 1073741824, .int .i64 0]
  rw [hWl]
  simpa using h9
 obtain ⟨g0, hg0⟩ : ∃ g0, g0 = w.heap.size + 1 + 1 + 1 := ⟨_, rfl⟩
 rw [← hg0] at hP0 ⊢
 have hgw : Hid (w.heap.size ≤ g0 ∧ wb.heap.size ≤ g0) := by have := hmw.out; constructor <;> omega
 haveI ng0 : New wb g0 := ⟨hgw.out.2⟩
 clear hWl hg0 hmw hwb hbW
 go_loopw [12, 14, 27] (fun bv av iv wr => ∃ c : Nat, c ≤ N ∧ iv = .int .i64 (c : Int) ∧ Hid (Blk wr g0 110 #[.int .i64 (leastP (cutBest t f bs r c)).1, .int .i64 (leastP (cutBest t f bs r c)).2]) ∧ Hid (BestSt 134 t f bs r wr g0 bv av (cutBest t f bs r c)) ∧ Later wb wr) (fun _ _ iv _ => N - (intOf iv).toNat)
 case atStart => exact ⟨0, by omega, rfl, Lib.hid hP0, Lib.hid ⟨rfl, rfl⟩, hLl⟩
 case round =>
  obtain ⟨c, hcN, rfl, hB0, hBS, hX⟩ := hrel
  obtain ⟨bv, hbv⟩ : ∃ x, x = u12 := ⟨_, rfl⟩
  obtain ⟨av, hav⟩ : ∃ x, x = u14 := ⟨_, rfl⟩
  subst hbv hav
  obtain ⟨lp, lq, hlp⟩ : ∃ p q, leastP (cutBest t f bs r c) = (p, q) := ⟨_, _, rfl⟩
  have HLP := Lib.hid hlp
  have hB1 : Blk wr g0 110 #[.int .i64 lp, .int .i64 lq] := by have h9 := hB0.out; rw [hlp] at h9; exact h9
  have HB1 := Lib.hid hB1
  have hgr := hB1.lt
  by_cases hlt : c < N
  ·have hstep := Lib.hid (show cutBest t f bs r (c + 1) = cutStep t f bs r (cutBest t f bs r c) c from rfl)
   have hbc : ∀ W' [Later wr W'] (j : Nat), W'.cell? ⟨g0, j, none⟩ = (#[.int .i64 lp, .int .i64 lq] : Array Value)[j]? := fun W' hW' j => (hB1.later hW').cell j
   cases hoc : okCut t bs (c : Int) with
   | false =>
    have HOC := Lib.hid hoc
    have HNX : Hid (cutBest t f bs r (c + 1) = cutBest t f bs r c) := by show _ = _; rw [hstep.out]; unfold cutStep; rw [if_neg (by rw [hoc]; simp)]
    clear hoc hlp hB1 hB0
    go_wp2_with (go_at_call 71; refine (impl_isCut H.out (hwb0.trans inferInstance) H3.out (hwb3.trans inferInstance) DF.out H8.out (c : Int)).mono ?_; rw [HOC.out]; rintro e w1 ⟨rfl, L1⟩; have X1 := Later.trans (w := wb) inferInstance L1; have Z1 := Later.trans (w := wr) inferInstance L1)
    go_roundw
    case rel => exact ⟨c + 1, by omega, by go_num, Lib.hid (by rw [HNX.out, HLP.out]; exact HB1.out.later inferInstance), Lib.hid (by rw [HNX.out]; exact hBS.out.touch (fp := []) (Touch.of_later inferInstance) (by simp)), inferInstance⟩
    case measure => simp [intOf]; omega
   | true =>
    have HOC := Lib.hid hoc
    have PC := Lib.hid (pcsC HOK.out H8.out (c : Int))
    obtain ⟨ps, hps⟩ : ∃ ps, ps = cutAll t (c : Int) bs := ⟨_, rfl⟩
    have HPS := Lib.hid hps
    rw [← hps] at PC
    obtain ⟨q1, q2, hq⟩ : ∃ p q, priceT t f bs r c = (p, q) := ⟨_, _, rfl⟩
    have HQ := Lib.hid hq
    have HBI : Hid (bI ps.length (pcA t f bs r ps) (pcP t f bs r ps) ps.length 0 = (q1, q2)) := by show _ = _; rw [← hq]; unfold priceT priceD; rw [← hps]
    obtain ⟨z, hz⟩ : ∃ z, z = prC (q1, q2) (lp, lq) := ⟨_, rfl⟩
    have HZ := Lib.hid hz.symm
    have hNB := NB_le PC.out.m8
    have HNB := Lib.hid hNB
    clear hoc hlp hB1 hB0 hps hq hNB
    go_wp2_with (go_at_call 71; refine (impl_isCut H.out (hwb0.trans inferInstance) H3.out (hwb3.trans inferInstance) DF.out H8.out (c : Int)).mono ?_; rw [HOC.out]; rintro e w1 ⟨rfl, L1⟩; have X1 := Later.trans (w := wb) inferInstance L1; have Z1 := Later.trans (w := wr) inferInstance L1)
    refine gO (S := (fun w' => Later wb w' ∧ Later w1 w')) (by kernel_rfl) (by exact ⟨inferInstance, inferInstance⟩) (fun _ _ _ _ _ h => h) (fun hHeld hZq => ?_)
    refine gT 0 rfl (by kernel_rfl) (by intro w' hSw; go_simp <;> rfl) hZq hHeld ?_; simp only [Act.put, sA, sZ, sS]
    refine gT 1 rfl (by kernel_rfl) (by intro w' hSw; go_simp <;> rfl) hZq hHeld ?_; simp only [Act.put, sA, sZ, sS]
    refine gT 2 rfl (by kernel_rfl) (by intro w' hSw; go_simp <;> rfl) hZq hHeld ?_; simp only [Act.put, sA, sZ, sS]
    refine gT 3 rfl (by kernel_rfl) (by intro w' hSw; go_simp <;> rfl) hZq hHeld ?_; simp only [Act.put, sA, sZ, sS]
    refine gT 4 rfl (by kernel_rfl) (by intro w' hSw; go_simp <;> rfl) hZq hHeld ?_; simp only [Act.put, sA, sZ, sS]
    refine gT 5 rfl (by kernel_rfl) (by intro w' hSw; go_simp <;> rfl) hZq hHeld ?_; simp only [Act.put, sA, sZ, sS]
    refine gT 6 rfl (by kernel_rfl) (by intro w' hSw; go_simp <;> rfl) hZq hHeld ?_; simp only [Act.put, sA, sZ, sS]
    refine gE 7 rfl (by kernel_rfl) (fun K hK => ?_)
    go_simp
    (go_at_call 73; go_loud (refine (impl_cutPieces H.out (hwb0.trans inferInstance) H3.out (hwb3.trans inferInstance) DF.out H8.out (c : Int) H12.out).mono ?_; rw [← HPS.out]; rintro e w3 ⟨A3, n3, c3, fp3, rfl, o3, nd3, lo3, L3⟩; have X3 := Later.trans (w := wb) inferInstance L3; have Y3 := Later.trans (w := w1) inferInstance L3; have hn3 := o3.len; subst hn3; have HR3 : Hid (Sl 1 (rSl 1 rInt) w3 A3 ps.length c3 ps) := o3.reads; have HO3 := Lib.hid o3; have HND3 := Lib.hid nd3; have HLO3 := Lib.hid lo3; clear o3 nd3 lo3))
    refine hK.out _ _ (by exact ⟨inferInstance, inferInstance⟩) (fun hHeld => ?_)
    try simp only [Act.put, sA, sZ, sS]
    refine gE 8 rfl (by kernel_rfl) (fun K hK => ?_)
    go_simp
    (go_at_call 72; go_loud (refine (impl_newCutter H.out (hwb0.trans inferInstance) H2.out (hwb2.trans inferInstance) H3.out (hwb3.trans inferInstance) r HOK.out HR3.out inferInstance PC.out.m8 PC.out.p12).mono ?_; rintro e w4 ⟨gx, gs, gp, b, g, rfl, hX4, hM4, L4, hN4⟩; have X4 := Later.trans (w := wb) inferInstance L4; have Y4 := Later.trans (w := w1) inferInstance L4; have HX4 := Lib.hid hX4; have HM4 := Lib.hid hM4; have HN4 := Lib.hid hN4; have HL4 := Lib.hid L4; clear hX4 hM4 hN4))
    refine hK.out _ _ (by exact ⟨inferInstance, inferInstance⟩) (fun hHeld => ?_)
    try simp only [Act.put, sA, sZ, sS]
    refine gT 9 rfl (by kernel_rfl) (by intro w' hSw; go_simp <;> rfl) hZq hHeld ?_; simp only [Act.put, sA, sZ, sS]
    refine wpAnyH_done (by kernel_rfl) ?_ _
    have hgr3 : wr.heap.size ≤ w3.heap.size := (Z1.trans Y3).size
    have hb3 := HN4.out.b
    have hw34 := HL4.out.size
    have hbl4 := HM4.out.lt
    have hne : g0 ≠ b := by omega
    by_cases hzl : z < 0
    ·have HNX : Hid (cutBest t f bs r (c + 1) = some (c, priceT t f bs r c)) := by show _ = _; rw [hstep.out]; unfold cutStep; rw [if_pos ⟨HOC.out, by rw [HQ.out, HLP.out, HZ.out]; exact hzl⟩]
     go_wp2_with first
      | (go_at_call 74; go_loud (refine ((best_all PC.out.ci ps.length).1 w4 0 0 0 0 0 rfl rfl (by omega) (Nat.two_pow_pos _) HX4.out HM4.out (by have := HNB.out; omega)).mono ?_; rw [HBI.out]; rintro e w5 ⟨rfl, hM5, hT5⟩; have HM5 := Lib.hid hM5; have HT5 := Lib.hid hT5; have HB5 := Lib.hid (hT5.blk (HB1.out.later (Z1.trans Y4)) (by simpa using hne)); have h5c : ∀ W' [Later w5 W'] (j : Nat), W'.cell? ⟨g0, j, none⟩ = (#[.int .i64 lp, .int .i64 lq] : Array Value)[j]? := (fun W' hW' j => (HB5.out.later hW').cell j); clear hM5 hT5))
      | (go_at_call 75; go_loud (refine (impl_comparePrices q1 q2 lp lq _).mono ?_; rw [HZ.out]; rintro e w8 ⟨rfl, L8⟩; have U8 := Later.trans (w := w5) inferInstance L8; have H17 := Lib.hid ((Blk.new w5 110 #[.int .i64 q1, .int .i64 q2]).later L8)))
     have HT48 : Hid (Touch [b] w4 w8) := HT5.out.trans (Touch.of_later U8)
     have X8 : Later wb w8 := HT48.out.later X4 (fun z hz => by rw [List.mem_singleton.1 hz]; have := X3.size; omega)
     have HTr8 : Hid (Touch [b] wr w8) := (Touch.of_later (Z1.trans Y4)).trans HT48.out
     have HB8 := Lib.hid (HB5.out.later U8)
     have hcr : ∀ W' [Later w8 W'] (j : Nat), W'.cell? ⟨g0, j, none⟩ = (#[.int .i64 lp, .int .i64 lq] : Array Value)[j]? := fun W' hW' j => (HB8.out.later hW').cell j
     have hfr : ∀ (j : Nat) W' [Later w8 W'], W'.frozen? ⟨g0, j, none⟩ = false := fun j W' hW' => (HB8.out.later hW').frozen j
     have hg17 : w5.heap.size ∉ [g0] := by have := HT5.out.size; simp; omega
     have t17 := Touch.cells H17.out hg17
     clear h5c hbc
     refine gO (S := (fun w' => Touch [g0] w8 w')) (by kernel_rfl) (by first | exact Touch.of_later inferInstance | exact ((Touch.refl_.set_ (by simp) _ _).set_ (by simp) _ _) | exact (((Touch.refl_.set_ (by simp) _ _).set_ (by simp) _ _).drew)) (fun _ _ _ _ _ h => h) (fun hHeld hZq => ?_)
     refine gT 0 rfl (by kernel_rfl) (by intro w' hSw; go_simp <;> rfl) hZq hHeld ?_; simp only [Act.put, sA, sZ, sS]
     refine gT 1 rfl (by kernel_rfl) (by intro w' hSw; go_simp <;> rfl) hZq hHeld ?_; simp only [Act.put, sA, sZ, sS]
     refine gT 2 rfl (by kernel_rfl) (by intro w' hSw; go_simp <;> rfl) hZq hHeld ?_; simp only [Act.put, sA, sZ, sS]
     refine gT 3 rfl (by kernel_rfl) (by intro w' hSw; go_simp <;> rfl) hZq hHeld ?_; simp only [Act.put, sA, sZ, sS]
     refine gE 4 rfl (by kernel_rfl) (fun K hK => ?_)
     go_simp
     skip
     refine hK.out _ _ (by first | exact Touch.of_later inferInstance | exact ((Touch.refl_.set_ (by simp) _ _).set_ (by simp) _ _) | exact (((Touch.refl_.set_ (by simp) _ _).set_ (by simp) _ _).drew)) (fun hHeld => ?_)
     try simp only [Act.put, sA, sZ, sS]
     refine gT 5 rfl (by kernel_rfl) (by intro w' hSw; go_simp <;> rfl) hZq hHeld ?_; simp only [Act.put, sA, sZ, sS]
     refine wpAnyH_done (by kernel_rfl) ?_ _
     obtain ⟨W9, hW9⟩ : ∃ W9 : World, W9 = ((w8.setCell ⟨g0, 0, none⟩ (.int .i64 q1)).setCell ⟨g0, 1, none⟩ (.int .i64 q2)).drew := ⟨_, rfl⟩
     rw [← hW9]
     have hT89 : Touch [g0] w8 W9 := by rw [hW9]; exact ((Touch.refl_.set_ (by simp) _ _).set_ (by simp) _ _).drew
     have HB9 : Hid (Blk W9 g0 110 #[.int .i64 q1, .int .i64 q2]) := by rw [hW9]; exact Lib.hid (((HB8.out.set_ 0 _).set_ 1 _).drew)
     haveI X9 : Later wb W9 := hT89.later X8 (fun z hz => by rw [List.mem_singleton.1 hz]; exact hgw.out.2)
     obtain ⟨fps, hPO⟩ := PcsO.of (lo := g0 + 1) (hi := w3.heap.size) HO3.out HND3.out (fun x hx => by have h9 : w1.heap.size ≤ x := HLO3.out x hx; have := Z1.size; omega) HO3.out.lt
     have hT39 : Touch [b, g0] w3 W9 := ((Touch.of_later (HL4.out.trans Later.rfl_)).trans (HT48.out.mono (by simp))).trans (hT89.mono (by simp))
     have hT49 : Touch [b, g0] w4 W9 := (HT48.out.mono (by simp)).trans (hT89.mono (by simp))
     have hPO9 := hPO.touch hT39 (by intro z hz; simp at hz; omega)
     have hCN : CutNew (g0 + 1) ps.length gx gs gp b g := ⟨by have := HN4.out.x; omega, by have := HN4.out.s; omega, by have := HN4.out.p; omega, by omega, fun i hi => by have := HN4.out.r i hi; omega⟩
     have hX9 := HX4.out.touchN hCN hT49 (by intro z hz; simp at hz; omega)
     have hM9 := (HM5.out.later U8).touch hT89 (by simpa using (Ne.symm hne))
     have HBS9 : Hid (BestSt 134 t f bs r W9 g0 (.pointer (some ⟨gx, 0, none⟩)) (.int .i64 (c : Int)) (some (c, priceT t f bs r c))) := by
      refine ⟨rfl, gx, gs, gp, b, g, A3, c3, w3.heap.size, 0 + NB ps.length, fps, rfl, ?_⟩
      simp only
      rw [← HPS.out]
      exact ⟨hPO9, hb3, hX9, hCN, hM9, by have := HNB.out; omega⟩
     clear hW9 hT89 hPO hT39 hT49 hPO9 hX9 hM9 hCN t17 hcr hfr
     go_wp2
     go_roundw
     case rel => exact ⟨c + 1, by omega, by go_num, Lib.hid (by rw [HNX.out]; simp only [leastP]; rw [HQ.out]; exact HB9.out.later inferInstance), Lib.hid (by rw [HNX.out]; exact HBS9.out.touch (fp := []) (Touch.of_later inferInstance) (by simp)), inferInstance⟩
     case measure => simp [intOf]; omega
    ·have HNX : Hid (cutBest t f bs r (c + 1) = cutBest t f bs r c) := by show _ = _; rw [hstep.out]; unfold cutStep; rw [if_neg fun h9 => hzl (by have h10 := h9.2; rw [HQ.out, HLP.out, HZ.out] at h10; exact h10)]
     go_wp2_with first
      | (go_at_call 74; go_loud (refine ((best_all PC.out.ci ps.length).1 w4 0 0 0 0 0 rfl rfl (by omega) (Nat.two_pow_pos _) HX4.out HM4.out (by have := HNB.out; omega)).mono ?_; rw [HBI.out]; rintro e w5 ⟨rfl, hM5, hT5⟩; have HM5 := Lib.hid hM5; have HT5 := Lib.hid hT5; have HB5 := Lib.hid (hT5.blk (HB1.out.later (Z1.trans Y4)) (by simpa using hne)); have h5c : ∀ W' [Later w5 W'] (j : Nat), W'.cell? ⟨g0, j, none⟩ = (#[.int .i64 lp, .int .i64 lq] : Array Value)[j]? := (fun W' hW' j => (HB5.out.later hW').cell j); clear hM5 hT5))
      | (go_at_call 75; go_loud (refine (impl_comparePrices q1 q2 lp lq _).mono ?_; rw [HZ.out]; rintro e w8 ⟨rfl, L8⟩; have U8 := Later.trans (w := w5) inferInstance L8; have H17 := Lib.hid ((Blk.new w5 110 #[.int .i64 q1, .int .i64 q2]).later L8)))
     have HT48 : Hid (Touch [b] w4 w8) := HT5.out.trans (Touch.of_later U8)
     have X8 : Later wb w8 := HT48.out.later X4 (fun z hz => by rw [List.mem_singleton.1 hz]; have := X3.size; omega)
     have HTr8 : Hid (Touch [b] wr w8) := (Touch.of_later (Z1.trans Y4)).trans HT48.out
     have HB8 := Lib.hid (HB5.out.later U8)
     go_roundw
     case rel => exact ⟨c + 1, by omega, by go_num, Lib.hid (by rw [HNX.out, HLP.out]; exact HB8.out.later inferInstance), Lib.hid (by rw [HNX.out]; exact hBS.out.touch (HTr8.out.trans (Touch.of_later inferInstance)) (by intro z hz; rw [List.mem_singleton.1 hz]; omega)), X8.trans inferInstance⟩
     case measure => simp [intOf]; omega
  ·have hcN2 : c = N := by omega
   rw [hcN2] at hBS hlp
   cases hbest : cutBest t f bs r N with
   | none =>
    have h9 := hBS.out
    rw [hbest] at h9
    obtain ⟨rfl, rfl⟩ := h9
    have HBEST := Lib.hid hbest
    clear hbest
    go_wp2
    (try simp only [Exit.inBlock, Exit.then])
    refine bodyPost_ret (v := .tuple #[.slice none 0 0, .int .i64 (0), .int .i64 (0), .bool false]) (by simp [results, Tryz.results41, go_sem]) rfl ?_
    show RetD4 _ _ _ _
    rw [HBEST.out]
    exact ⟨_, _, _, [], rfl, OSl.nil_ _, by simp, by simp, hww.trans inferInstance⟩
   | some x =>
    obtain ⟨c0, p1, p2⟩ := x
    have h9 := hBS.out
    rw [hbest] at h9 hlp
    obtain ⟨rfl, gx, gs, gp, b, g, pA, pc, hi, cnt, fps, rfl, hPO, hib, hX4, hN4, hM4, hcn⟩ := h9
    simp only at hPO hX4 hN4 hM4
    have PC := Lib.hid (pcsC HOK.out H8.out (c0 : Int))
    have HFD : Hid (fdOut t f bs r (cutBest t f bs r N) = ((sortK keyD (rawD (cutAll t (c0 : Int) bs).length (pcA t f bs r (cutAll t (c0 : Int) bs)) (pcP t f bs r (cutAll t (c0 : Int) bs)) (cutAll t (c0 : Int) bs))).map Duty.mk, (c0 : Int), p2, true)) := by show _ = _; rw [hbest, ← bestD_raw PC.out]; rfl
    have hpq : lp = p1 ∧ lq = p2 := by simp only [leastP, Prod.mk.injEq] at hlp; exact ⟨hlp.1.symm, hlp.2.symm⟩
    obtain ⟨rfl, rfl⟩ := hpq
    obtain ⟨ps, hps⟩ : ∃ ps, ps = cutAll t (c0 : Int) bs := ⟨_, rfl⟩
    rw [← hps] at hPO hX4 hN4 hM4 PC HFD
    have hbl := hM4.lt
    have hnb := hN4.b
    have hCW := cutW_later (Nat.le_of_lt hbl)
    have hcs := cutW_size (Nat.le_of_lt hbl)
    have HDU := Lib.hid fun (W : World) (hl : Later wr W) => cut_duties PC.out.ci (hPO.cut hib (Nat.le_of_lt hbl)) (hCW.trans hl) (by omega) (by omega) (hX4.later hl) (hM4.later hl) (by omega) PC.out.pos
    have tG := Touch.cells hB1 (show g0 ∉ [b] by simp; omega)
    clear hBS hPO hX4 hN4 hM4 hlp hbest hps hCW hcs
    go_wp2_with fail
    refine gO (S := (fun w' => Touch [b] wr w')) (by kernel_rfl) (by first | exact Touch.of_later inferInstance | exact (Touch.of_later inferInstance).trans hT9) (fun _ _ _ _ _ h => h) (fun hHeld hZq => ?_)
    refine gT 0 rfl (by kernel_rfl) (by intro w' hSw; go_simp <;> rfl) hZq hHeld ?_; simp only [Act.put, sA, sZ, sS]
    refine gT 2 rfl (by kernel_rfl) (by intro w' hSw; go_simp <;> rfl) hZq hHeld ?_; simp only [Act.put, sA, sZ, sS]
    refine gT 3 rfl (by kernel_rfl) (by intro w' hSw; go_simp <;> rfl) hZq hHeld ?_; simp only [Act.put, sA, sZ, sS]
    refine gT 4 rfl (by kernel_rfl) (by intro w' hSw; go_simp <;> rfl) hZq hHeld ?_; simp only [Act.put, sA, sZ, sS]
    refine gE 1 rfl (by kernel_rfl) (fun K hK => ?_)
    go_simp
    (go_at_call 76; go_loud (refine (HDU.out _ inferInstance).mono ?_; rintro e w9 ⟨A9, n9, c9, fp9, rfl, o9, nd9, lo9, hT9⟩; have HO9 := Lib.hid o9; have HND9 := Lib.hid nd9; have HLO9 := Lib.hid lo9; clear o9 nd9 lo9))
    refine hK.out _ _ (by first | exact Touch.of_later inferInstance | exact (Touch.of_later inferInstance).trans hT9) (fun hHeld => ?_)
    try simp only [Act.put, sA, sZ, sS]
    refine gT 5 rfl (by kernel_rfl) (by intro w' hSw; go_simp <;> rfl) hZq hHeld ?_; simp only [Act.put, sA, sZ, sS]
    refine gT 6 rfl (by kernel_rfl) (by intro w' hSw; go_simp <;> rfl) hZq hHeld ?_; simp only [Act.put, sA, sZ, sS]
    refine gT 7 rfl (by kernel_rfl) (by intro w' hSw; go_simp <;> rfl) hZq hHeld ?_; simp only [Act.put, sA, sZ, sS]
    refine gT 8 rfl (by kernel_rfl) (by intro w' hSw; go_simp <;> rfl) hZq hHeld ?_; simp only [Act.put, sA, sZ, sS]
    refine wpAnyH_done (by kernel_rfl) ?_ _
    have HT9 : Hid (Touch [b] wr w9) := (Touch.of_later inferInstance).trans hT9
    clear hT9
    go_wp2
    (try simp only [Exit.inBlock, Exit.then])
    refine bodyPost_ret (v := .tuple #[.slice A9 n9 c9, .int .i64 ((c0 : Int)), .int .i64 (lq), .bool true]) (by simp [results, Tryz.results41, go_sem]) rfl ?_
    show RetD4 _ _ _ _
    rw [HFD.out]
    exact ⟨_, _, _, fp9, rfl, HO9.out.later inferInstance, HND9.out, fun x hx => by have := HLO9.out x hx; have := hgw.out; omega, (hww.trans (HT9.out.later hX (fun z hz => by rw [List.mem_singleton.1 hz]; have := hgw.out; omega))).trans inferInstance⟩
end Go.Proofs.YtknhebakebmlcaaGreat
