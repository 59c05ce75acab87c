/-
 FewestDuties: the program's newCutter.
-/
import Derived.Test.YtknhebakebmlcaaGreatDpN
namespace Go.Proofs.YtknhebakebmlcaaGreat
open Go Go.RowKit
set_option linter.unusedVariables false
set_option maxRecDepth 100000
set_option linter.unusedSimpArgs false
theorem infoPr : (Tryz.prog.info? 110).map (fun i => (i.zero, i.size, i.bytes)) = some (some (.agg #[.int .i64 0, .int .i64 0]), 2, 16) := by kernel_rfl
theorem infoPrs : (Tryz.prog.info? 130).map (fun i => (i.zero, i.size, i.bytes)) = some (some (.slice none 0 0), 1, 24) := by kernel_rfl
theorem ways5 {G : Prop} {wb : World} (P : World → Nat → Nat → Nat → Nat → Nat → Prop) (R : World → Nat → Nat → Nat → Nat → Nat → Prop) (main : (∀ W gx gs gp b z, Later wb W → P W gx gs gp b z → R W gx gs gp b z) → G) (key : ∀ W gx gs gp b z, Later wb W → P W gx gs gp b z → R W gx gs gp b z) : G := main key
theorem four_blks (Wq : World) (o0 o1 o2 o3 : Obj) (W : World) (hW : W = ((((Wq.alloc o0).alloc o1).alloc o2).alloc o3).drew) : W.heap[Wq.heap.size]? = some o0 ∧ W.heap[Wq.heap.size + 1]? = some o1 ∧ W.heap[Wq.heap.size + 1 + 1]? = some o2 ∧ W.heap[Wq.heap.size + 1 + 1 + 1]? = some o3 ∧ W.heap.size = Wq.heap.size + 1 + 1 + 1 + 1 ∧ Later Wq W := by
 subst hW
 refine ⟨?_, ?_, ?_, ?_, by simp, inferInstance⟩
 ·exact (heap_old (by simp <;> omega)).trans ((heap_old (by simp <;> omega)).trans ((heap_old (by simp <;> omega)).trans (heap_new rfl)))
 ·exact (heap_old (by simp <;> omega)).trans ((heap_old (by simp <;> omega)).trans (heap_new (by simp <;> omega)))
 ·exact (heap_old (by simp <;> omega)).trans (heap_new (by simp <;> omega))
 ·exact heap_new (by simp <;> omega)
theorem MemoOK.of_blk (F : Nat → Nat → Int × Int) {W : World} {b : Nat} (h : W.heap[b]? = some (.map #[] 0)) : MemoOK F W b 0 := by
 obtain ⟨D, h1, h2⟩ := MemoOK.made F (default : World)
 obtain ⟨es, clock, hb, hF, hs, hD⟩ := h1
 rw [heap_alloc_new] at hb
 cases hb
 exact ⟨D, ⟨_, _, h, hF, hs, hD⟩, h2⟩
set_option maxHeartbeats 8000000 in
theorem impl_newCutter {w0 w w2 w3 : World} {sA0 : Option Addr} {sn0 sc0 : Nat} {sA1 : Option Addr} {sn1 sc1 : Nat} {sA2 : Option Addr} {sn2 sc2 : Nat} {t : Timetable} (h : TimetableAt w0 sA0 sn0 sc0 sA1 sn1 sc1 sA2 sn2 sc2 t) (hl : Later w0 w) {qA0 : Option Addr} {qn0 qc0 : Nat} {f : Fleet} (h2 : FleetAt w2 qA0 qn0 qc0 f) (hl2 : Later w2 w) {bA : Option Addr} {bn bc : Nat} {bs : List (List Int)} (h3 : Sl 1 (rSl 1 rInt) w3 bA bn bc bs) (hl3 : Later w3 w) (r : Rules) (hok : okRuled t f bs r = true) {w5 : World} {pA : Option Addr} {pn pc : Nat} {ps : List (List Int)} (h5 : Sl 1 (rSl 1 rInt) w5 pA pn pc ps) (hl5 : Later w5 w) (hm8 : ps.length ≤ 8) (hp12 : ps.flatten.length ≤ 12) :
  Calls Tryz.prog 72 #[.agg #[.slice sA0 sn0 sc0, .slice sA1 sn1 sc1, .slice sA2 sn2 sc2], .agg #[.slice qA0 qn0 qc0, .int .i64 f.Turn], .slice bA bn bc, .agg #[.int .i64 r.SignOn, .int .i64 r.SignOff, .int .i64 r.MaxDrive, .int .i64 r.MinBreak, .int .i64 r.PaidBreak, .int .i64 r.MaxLength], .slice pA pn pc] w (fun e w' => ∃ gx gs gp b g, e = .returned (.pointer (some ⟨gx, 0, none⟩)) ∧ CutOK 134 ps.length (pcA t f bs r ps) (pcP t f bs r ps) w' (.slice pA ps.length pc) gx gs gp b g ∧ MemoOK (memoB ps.length (pcA t f bs r ps) (pcP t f bs r ps)) w' b 0 ∧ Later w w' ∧ CutNew w.heap.size ps.length gx gs gp b g) := by
 have hP := h5.later hl5
 obtain ⟨m, hmd⟩ : ∃ m, m = ps.length := ⟨_, rfl⟩
 have hpn : pn = m := by rw [hmd]; exact hP.len
 subst hpn
 have hm9 : pn ≤ 8 := by rw [hmd]; exact hm8
 rw [← hmd]
 obtain ⟨A, hA⟩ : ∃ A, A = pcA t f bs r ps := ⟨_, rfl⟩
 obtain ⟨P, hPP⟩ : ∃ P, P = pcP t f bs r ps := ⟨_, rfl⟩
 rw [← hA, ← hPP]
 have HA := Lib.hid hA
 have HPP := Lib.hid hPP
 have HMD := Lib.hid hmd
 clear hA hPP hmd hm8
 have HB0 : ∀ W [Later ((((w.alloc (.cells #[.slice sA0 sn0 sc0, .slice sA1 sn1 sc1, .slice sA2 sn2 sc2] 44)).alloc (.cells #[.slice qA0 qn0 qc0, .int .i64 f.Turn] 46)).alloc (.cells #[.slice bA bn bc] 29)).alloc (.cells #[.int .i64 r.SignOn, .int .i64 r.SignOff, .int .i64 r.MaxDrive, .int .i64 r.MinBreak, .int .i64 r.PaidBreak, .int .i64 r.MaxLength] 49)) W] (j : Nat), W.cell? ⟨w.heap.size, j, none⟩ = #[.slice sA0 sn0 sc0, .slice sA1 sn1 sc1, .slice sA2 sn2 sc2][j]? := Later.boxes (t := 44) (fr := (0, 0)) ((heap_old (by simp; try omega)).trans ((heap_old (by simp; try omega)).trans ((heap_old (by simp; try omega)).trans (heap_new (by simp; try omega))))); have HB1 : ∀ W [Later ((((w.alloc (.cells #[.slice sA0 sn0 sc0, .slice sA1 sn1 sc1, .slice sA2 sn2 sc2] 44)).alloc (.cells #[.slice qA0 qn0 qc0, .int .i64 f.Turn] 46)).alloc (.cells #[.slice bA bn bc] 29)).alloc (.cells #[.int .i64 r.SignOn, .int .i64 r.SignOff, .int .i64 r.MaxDrive, .int .i64 r.MinBreak, .int .i64 r.PaidBreak, .int .i64 r.MaxLength] 49)) W] (j : Nat), W.cell? ⟨w.heap.size + 1, j, none⟩ = #[.slice qA0 qn0 qc0, .int .i64 f.Turn][j]? := Later.boxes (t := 46) (fr := (0, 0)) ((heap_old (by simp; try omega)).trans ((heap_old (by simp; try omega)).trans (heap_new (by simp; try omega)))); have HB2 : ∀ W [Later ((((w.alloc (.cells #[.slice sA0 sn0 sc0, .slice sA1 sn1 sc1, .slice sA2 sn2 sc2] 44)).alloc (.cells #[.slice qA0 qn0 qc0, .int .i64 f.Turn] 46)).alloc (.cells #[.slice bA bn bc] 29)).alloc (.cells #[.int .i64 r.SignOn, .int .i64 r.SignOff, .int .i64 r.MaxDrive, .int .i64 r.MinBreak, .int .i64 r.PaidBreak, .int .i64 r.MaxLength] 49)) W] (j : Nat), W.cell? ⟨w.heap.size + 1 + 1, j, none⟩ = #[.slice bA bn bc][j]? := Later.boxes (t := 29) (fr := (0, 0)) ((heap_old (by simp; try omega)).trans (heap_new (by simp; try omega))); have HB3 : ∀ W [Later ((((w.alloc (.cells #[.slice sA0 sn0 sc0, .slice sA1 sn1 sc1, .slice sA2 sn2 sc2] 44)).alloc (.cells #[.slice qA0 qn0 qc0, .int .i64 f.Turn] 46)).alloc (.cells #[.slice bA bn bc] 29)).alloc (.cells #[.int .i64 r.SignOn, .int .i64 r.SignOff, .int .i64 r.MaxDrive, .int .i64 r.MinBreak, .int .i64 r.PaidBreak, .int .i64 r.MaxLength] 49)) W] (j : Nat), W.cell? ⟨w.heap.size + 1 + 1 + 1, j, none⟩ = #[.int .i64 r.SignOn, .int .i64 r.SignOff, .int .i64 r.MaxDrive, .int .i64 r.MinBreak, .int .i64 r.PaidBreak, .int .i64 r.MaxLength][j]? := Later.boxes (t := 49) (fr := (0, 0)) (heap_new (by simp; try omega)); obtain ⟨wb, hwb⟩ : ∃ wb : World, wb = ((((w.alloc (.cells #[.slice sA0 sn0 sc0, .slice sA1 sn1 sc1, .slice sA2 sn2 sc2] 44)).alloc (.cells #[.slice qA0 qn0 qc0, .int .i64 f.Turn] 46)).alloc (.cells #[.slice bA bn bc] 29)).alloc (.cells #[.int .i64 r.SignOn, .int .i64 r.SignOff, .int .i64 r.MaxDrive, .int .i64 r.MinBreak, .int .i64 r.PaidBreak, .int .i64 r.MaxLength] 49)) := ⟨_, rfl⟩; haveI hbW : Later wb ((((w.alloc (.cells #[.slice sA0 sn0 sc0, .slice sA1 sn1 sc1, .slice sA2 sn2 sc2] 44)).alloc (.cells #[.slice qA0 qn0 qc0, .int .i64 f.Turn] 46)).alloc (.cells #[.slice bA bn bc] 29)).alloc (.cells #[.int .i64 r.SignOn, .int .i64 r.SignOff, .int .i64 r.MaxDrive, .int .i64 r.MinBreak, .int .i64 r.PaidBreak, .int .i64 r.MaxLength] 49)) := (by rw [hwb]; exact Later.rfl_); haveI hww : Later w wb := (by rw [hwb]; infer_instance); rw [← hwb] at HB0; rw [← hwb] at HB1; rw [← hwb] at HB2; rw [← hwb] at HB3; have hbE := Lib.hid (congrArg (fun x : World => x.heap.size) hwb); clear hwb
 have hbs : Hid (wb.heap.size = w.heap.size + 1 + 1 + 1 + 1) := by show _ = _; simpa using hbE.out
 have hwb0 := hl.trans hww
 have hwb2 := hl2.trans hww
 have hwb3 := hl3.trans hww
 have H := Lib.hid h
 have H2 := Lib.hid h2
 have H3 := Lib.hid h3
 have HOK := Lib.hid hok
 replace hP := hP.later hww
 have hcapP := hP.cap
 have hmm := @run_makeMap Tryz.prog
 obtain ⟨C1, hC1, hmk1⟩ := make_row (P := Tryz.prog) 130 110 Tryz.underlying130 infoPr pn (by omega) (by omega)
 obtain ⟨C2, hC2, hmk2⟩ := make_row (P := Tryz.prog) 131 130 Tryz.underlying131 infoPrs pn (by omega) (by omega)
 clear h h2 h3 hok hbE
 go_enter Tryz.func72, Tryz.ntmps72
 go_wp2_with fail
 obtain ⟨Wq, hWq⟩ : ∃ Wq : World, Wq = ((((w.alloc (.cells #[.slice sA0 sn0 sc0, .slice sA1 sn1 sc1, .slice sA2 sn2 sc2] 44)).alloc (.cells #[.slice qA0 qn0 qc0, .int .i64 f.Turn] 46)).alloc (.cells #[.slice bA bn bc] 29)).alloc (.cells #[.int .i64 r.SignOn, .int .i64 r.SignOff, .int .i64 r.MaxDrive, .int .i64 r.MinBreak, .int .i64 r.PaidBreak, .int .i64 r.MaxLength] 49)) := ⟨_, rfl⟩
 rw [← hWq]
 haveI hLq : Later wb Wq := by rw [hWq]; exact hbW
 clear hWq hbW
 apply ways5 (wb := wb) (fun W gx gs gp b z => NcSt 134 110 130 pn A P (.slice pA pn pc) z W gx gs gp b (fun _ => 0) 0 0 0 ∧ MemoOK (memoB pn A P) W b 0 ∧ wb.heap.size ≤ gx ∧ wb.heap.size ≤ gs ∧ wb.heap.size ≤ gp ∧ wb.heap.size ≤ b ∧ z ≤ W.heap.size)
 ·intro key
  refine gO (S := (fun w' => Later wb w')) (by kernel_rfl) (by exact inferInstance) (fun _ _ _ _ _ h => h) (fun hHeld hZq => ?_)
  refine gT 0 rfl (by kernel_rfl) (by intro w' hSw; go_simp <;> rfl) hZq hHeld ?_; simp only [Act.put, sA, sZ, sS]
  refine gT 1 rfl (by kernel_rfl) (by intro w' hSw; go_simp <;> rfl) hZq hHeld ?_; simp only [Act.put, sA, sZ, sS]
  refine gT 2 rfl (by kernel_rfl) (by intro w' hSw; go_simp <;> rfl) hZq hHeld ?_; simp only [Act.put, sA, sZ, sS]
  refine gT 4 rfl (by kernel_rfl) (by intro w' hSw; go_simp <;> rfl) hZq hHeld ?_; simp only [Act.put, sA, sZ, sS]
  refine gT 5 rfl (by kernel_rfl) (by intro w' hSw; go_simp <;> rfl) hZq hHeld ?_; simp only [Act.put, sA, sZ, sS]
  refine wpAnyH_ready (rs := [3, 6, 7]) (by kernel_rfl) (by simp) (AllReadyH.cons rfl (fun K hK => ?rx0_1_2_4_5_3) (AllReadyH.cons rfl (fun K hK => ?rx0_1_2_4_5_6) (AllReadyH.cons rfl (fun K hK => ?rx0_1_2_4_5_7) AllReadyH.nil)))
  case' rx0_1_2_4_5_3 =>
   go_simp
   skip
   refine hK.out _ _ (by exact inferInstance) (fun hHeld => ?_)
   try simp only [Act.put, sA, sZ, sS]
   refine wpAnyH_ready (rs := [6, 7]) (by kernel_rfl) (by simp) (AllReadyH.cons rfl (fun K hK => ?rx0_1_2_3_4_5_6) (AllReadyH.cons rfl (fun K hK => ?rx0_1_2_3_4_5_7) AllReadyH.nil))
   case' rx0_1_2_3_4_5_6 =>
    go_simp
    skip
    refine hK.out _ _ (by exact inferInstance) (fun hHeld => ?_)
    try simp only [Act.put, sA, sZ, sS]
    refine gE 7 rfl (by kernel_rfl) (fun K hK => ?_)
    go_simp
    skip
    refine hK.out _ _ (by exact inferInstance) (fun hHeld => ?_)
    try simp only [Act.put, sA, sZ, sS]
    refine gT 8 rfl (by kernel_rfl) (by intro w' hSw; go_simp <;> rfl) hZq hHeld ?_; simp only [Act.put, sA, sZ, sS]
    refine gE 9 rfl (by kernel_rfl) (fun K hK => ?_)
    go_simp
    skip
    refine hK.out _ _ (by exact inferInstance) (fun hHeld => ?_)
    try simp only [Act.put, sA, sZ, sS]
    refine gT 10 rfl (by kernel_rfl) (by intro w' hSw; go_simp <;> rfl) hZq hHeld ?_; simp only [Act.put, sA, sZ, sS]
    refine wpAnyH_done (by kernel_rfl) ?_ _
   case' rx0_1_2_3_4_5_7 =>
    go_simp
    skip
    refine hK.out _ _ (by exact inferInstance) (fun hHeld => ?_)
    try simp only [Act.put, sA, sZ, sS]
    refine gE 6 rfl (by kernel_rfl) (fun K hK => ?_)
    go_simp
    skip
    refine hK.out _ _ (by exact inferInstance) (fun hHeld => ?_)
    try simp only [Act.put, sA, sZ, sS]
    refine gT 8 rfl (by kernel_rfl) (by intro w' hSw; go_simp <;> rfl) hZq hHeld ?_; simp only [Act.put, sA, sZ, sS]
    refine gE 9 rfl (by kernel_rfl) (fun K hK => ?_)
    go_simp
    skip
    refine hK.out _ _ (by exact inferInstance) (fun hHeld => ?_)
    try simp only [Act.put, sA, sZ, sS]
    refine gT 10 rfl (by kernel_rfl) (by intro w' hSw; go_simp <;> rfl) hZq hHeld ?_; simp only [Act.put, sA, sZ, sS]
    refine wpAnyH_done (by kernel_rfl) ?_ _
  case' rx0_1_2_4_5_6 =>
   go_simp
   skip
   refine hK.out _ _ (by exact inferInstance) (fun hHeld => ?_)
   try simp only [Act.put, sA, sZ, sS]
   refine wpAnyH_ready (rs := [3, 7]) (by kernel_rfl) (by simp) (AllReadyH.cons rfl (fun K hK => ?rx0_1_2_4_5_6_3) (AllReadyH.cons rfl (fun K hK => ?rx0_1_2_4_5_6_7) AllReadyH.nil))
   case' rx0_1_2_4_5_6_3 =>
    go_simp
    skip
    refine hK.out _ _ (by exact inferInstance) (fun hHeld => ?_)
    try simp only [Act.put, sA, sZ, sS]
    refine gE 7 rfl (by kernel_rfl) (fun K hK => ?_)
    go_simp
    skip
    refine hK.out _ _ (by exact inferInstance) (fun hHeld => ?_)
    try simp only [Act.put, sA, sZ, sS]
    refine gT 8 rfl (by kernel_rfl) (by intro w' hSw; go_simp <;> rfl) hZq hHeld ?_; simp only [Act.put, sA, sZ, sS]
    refine gE 9 rfl (by kernel_rfl) (fun K hK => ?_)
    go_simp
    skip
    refine hK.out _ _ (by exact inferInstance) (fun hHeld => ?_)
    try simp only [Act.put, sA, sZ, sS]
    refine gT 10 rfl (by kernel_rfl) (by intro w' hSw; go_simp <;> rfl) hZq hHeld ?_; simp only [Act.put, sA, sZ, sS]
    refine wpAnyH_done (by kernel_rfl) ?_ _
   case' rx0_1_2_4_5_6_7 =>
    go_simp
    skip
    refine hK.out _ _ (by exact inferInstance) (fun hHeld => ?_)
    try simp only [Act.put, sA, sZ, sS]
    refine gE 3 rfl (by kernel_rfl) (fun K hK => ?_)
    go_simp
    skip
    refine hK.out _ _ (by exact inferInstance) (fun hHeld => ?_)
    try simp only [Act.put, sA, sZ, sS]
    refine gT 8 rfl (by kernel_rfl) (by intro w' hSw; go_simp <;> rfl) hZq hHeld ?_; simp only [Act.put, sA, sZ, sS]
    refine gE 9 rfl (by kernel_rfl) (fun K hK => ?_)
    go_simp
    skip
    refine hK.out _ _ (by exact inferInstance) (fun hHeld => ?_)
    try simp only [Act.put, sA, sZ, sS]
    refine gT 10 rfl (by kernel_rfl) (by intro w' hSw; go_simp <;> rfl) hZq hHeld ?_; simp only [Act.put, sA, sZ, sS]
    refine wpAnyH_done (by kernel_rfl) ?_ _
  case' rx0_1_2_4_5_7 =>
   go_simp
   skip
   refine hK.out _ _ (by exact inferInstance) (fun hHeld => ?_)
   try simp only [Act.put, sA, sZ, sS]
   refine wpAnyH_ready (rs := [3, 6]) (by kernel_rfl) (by simp) (AllReadyH.cons rfl (fun K hK => ?rx0_1_2_4_5_7_3) (AllReadyH.cons rfl (fun K hK => ?rx0_1_2_4_5_7_6) AllReadyH.nil))
   case' rx0_1_2_4_5_7_3 =>
    go_simp
    skip
    refine hK.out _ _ (by exact inferInstance) (fun hHeld => ?_)
    try simp only [Act.put, sA, sZ, sS]
    refine gE 6 rfl (by kernel_rfl) (fun K hK => ?_)
    go_simp
    skip
    refine hK.out _ _ (by exact inferInstance) (fun hHeld => ?_)
    try simp only [Act.put, sA, sZ, sS]
    refine gT 8 rfl (by kernel_rfl) (by intro w' hSw; go_simp <;> rfl) hZq hHeld ?_; simp only [Act.put, sA, sZ, sS]
    refine gE 9 rfl (by kernel_rfl) (fun K hK => ?_)
    go_simp
    skip
    refine hK.out _ _ (by exact inferInstance) (fun hHeld => ?_)
    try simp only [Act.put, sA, sZ, sS]
    refine gT 10 rfl (by kernel_rfl) (by intro w' hSw; go_simp <;> rfl) hZq hHeld ?_; simp only [Act.put, sA, sZ, sS]
    refine wpAnyH_done (by kernel_rfl) ?_ _
   case' rx0_1_2_4_5_7_6 =>
    go_simp
    skip
    refine hK.out _ _ (by exact inferInstance) (fun hHeld => ?_)
    try simp only [Act.put, sA, sZ, sS]
    refine gE 3 rfl (by kernel_rfl) (fun K hK => ?_)
    go_simp
    skip
    refine hK.out _ _ (by exact inferInstance) (fun hHeld => ?_)
    try simp only [Act.put, sA, sZ, sS]
    refine gT 8 rfl (by kernel_rfl) (by intro w' hSw; go_simp <;> rfl) hZq hHeld ?_; simp only [Act.put, sA, sZ, sS]
    refine gE 9 rfl (by kernel_rfl) (fun K hK => ?_)
    go_simp
    skip
    refine hK.out _ _ (by exact inferInstance) (fun hHeld => ?_)
    try simp only [Act.put, sA, sZ, sS]
    refine gT 10 rfl (by kernel_rfl) (by intro w' hSw; go_simp <;> rfl) hZq hHeld ?_; simp only [Act.put, sA, sZ, sS]
    refine wpAnyH_done (by kernel_rfl) ?_ _
  case rx0_1_2_4_5_7_6 =>
   obtain ⟨W4, hW4⟩ : ∃ W4 : World, W4 = ((((Wq.alloc (.map #[] 0)).alloc (.cells C2 130)).alloc (.cells C1 110)).alloc (.cells #[.slice pA pn pc, .slice (some ⟨Wq.heap.size + 1 + 1, 0, none⟩) pn pn, .slice (some ⟨Wq.heap.size + 1, 0, none⟩) pn pn, .map (some (Wq.heap.size))] 134)).drew := ⟨_, rfl⟩
   rw [← hW4]
   obtain ⟨f0, f1, f2, f3, fs, fl⟩ := four_blks Wq _ _ _ _ W4 hW4
   have hl4 : Later wb W4 := hLq.trans fl
   have hq0 := hLq.size
   clear hW4
   obtain ⟨z3, hz3⟩ : ∃ z, z = Wq.heap.size + 1 + 1 + 1 := ⟨_, rfl⟩
   obtain ⟨z2, hz2⟩ : ∃ z, z = Wq.heap.size + 1 + 1 := ⟨_, rfl⟩
   obtain ⟨z1, hz1⟩ : ∃ z, z = Wq.heap.size + 1 := ⟨_, rfl⟩
   obtain ⟨z0, hz0⟩ : ∃ z, z = Wq.heap.size := ⟨_, rfl⟩
   rw [← hz3] at f3 ⊢
   rw [← hz2] at f2 ⊢
   rw [← hz1] at f1 ⊢
   rw [← hz0] at f0 ⊢
   try rw [← hz2] at f3
   try rw [← hz1] at f3
   try rw [← hz0] at f3
   obtain ⟨zz, hzz⟩ : ∃ z, z = z3 + 1 := ⟨_, rfl⟩
   exact key W4 z3 z2 z1 z0 zz hl4 ⟨⟨f3, ⟨C1, f2, hC1, fun k hk => by omega⟩, ⟨C2, f1, by rw [hC2, Nat.mul_one], fun k hk => by omega⟩, fun i hi => by omega, by omega, by omega, by omega, by omega, by omega, by omega, by omega, by omega, by omega, by omega, fun i hi => by omega, fun i k _ hk => by omega, Nat.le_refl _⟩, MemoOK.of_blk _ f0, by omega, by omega, by omega, by omega, by omega⟩
  case rx0_1_2_4_5_7_3 =>
   obtain ⟨W4, hW4⟩ : ∃ W4 : World, W4 = ((((Wq.alloc (.map #[] 0)).alloc (.cells C1 110)).alloc (.cells C2 130)).alloc (.cells #[.slice pA pn pc, .slice (some ⟨Wq.heap.size + 1, 0, none⟩) pn pn, .slice (some ⟨Wq.heap.size + 1 + 1, 0, none⟩) pn pn, .map (some (Wq.heap.size))] 134)).drew := ⟨_, rfl⟩
   rw [← hW4]
   obtain ⟨f0, f1, f2, f3, fs, fl⟩ := four_blks Wq _ _ _ _ W4 hW4
   have hl4 : Later wb W4 := hLq.trans fl
   have hq0 := hLq.size
   clear hW4
   obtain ⟨z3, hz3⟩ : ∃ z, z = Wq.heap.size + 1 + 1 + 1 := ⟨_, rfl⟩
   obtain ⟨z2, hz2⟩ : ∃ z, z = Wq.heap.size + 1 + 1 := ⟨_, rfl⟩
   obtain ⟨z1, hz1⟩ : ∃ z, z = Wq.heap.size + 1 := ⟨_, rfl⟩
   obtain ⟨z0, hz0⟩ : ∃ z, z = Wq.heap.size := ⟨_, rfl⟩
   rw [← hz3] at f3 ⊢
   rw [← hz2] at f2 ⊢
   rw [← hz1] at f1 ⊢
   rw [← hz0] at f0 ⊢
   try rw [← hz2] at f3
   try rw [← hz1] at f3
   try rw [← hz0] at f3
   obtain ⟨zz, hzz⟩ : ∃ z, z = z3 + 1 := ⟨_, rfl⟩
   exact key W4 z3 z1 z2 z0 zz hl4 ⟨⟨f3, ⟨C1, f1, hC1, fun k hk => by omega⟩, ⟨C2, f2, by rw [hC2, Nat.mul_one], fun k hk => by omega⟩, fun i hi => by omega, by omega, by omega, by omega, by omega, by omega, by omega, by omega, by omega, by omega, by omega, fun i hi => by omega, fun i k _ hk => by omega, Nat.le_refl _⟩, MemoOK.of_blk _ f0, by omega, by omega, by omega, by omega, by omega⟩
  case rx0_1_2_4_5_6_7 =>
   obtain ⟨W4, hW4⟩ : ∃ W4 : World, W4 = ((((Wq.alloc (.cells C2 130)).alloc (.map #[] 0)).alloc (.cells C1 110)).alloc (.cells #[.slice pA pn pc, .slice (some ⟨Wq.heap.size + 1 + 1, 0, none⟩) pn pn, .slice (some ⟨Wq.heap.size, 0, none⟩) pn pn, .map (some (Wq.heap.size + 1))] 134)).drew := ⟨_, rfl⟩
   rw [← hW4]
   obtain ⟨f0, f1, f2, f3, fs, fl⟩ := four_blks Wq _ _ _ _ W4 hW4
   have hl4 : Later wb W4 := hLq.trans fl
   have hq0 := hLq.size
   clear hW4
   obtain ⟨z3, hz3⟩ : ∃ z, z = Wq.heap.size + 1 + 1 + 1 := ⟨_, rfl⟩
   obtain ⟨z2, hz2⟩ : ∃ z, z = Wq.heap.size + 1 + 1 := ⟨_, rfl⟩
   obtain ⟨z1, hz1⟩ : ∃ z, z = Wq.heap.size + 1 := ⟨_, rfl⟩
   obtain ⟨z0, hz0⟩ : ∃ z, z = Wq.heap.size := ⟨_, rfl⟩
   rw [← hz3] at f3 ⊢
   rw [← hz2] at f2 ⊢
   rw [← hz1] at f1 ⊢
   rw [← hz0] at f0 ⊢
   try rw [← hz2] at f3
   try rw [← hz1] at f3
   try rw [← hz0] at f3
   obtain ⟨zz, hzz⟩ : ∃ z, z = z3 + 1 := ⟨_, rfl⟩
   exact key W4 z3 z2 z0 z1 zz hl4 ⟨⟨f3, ⟨C1, f2, hC1, fun k hk => by omega⟩, ⟨C2, f0, by rw [hC2, Nat.mul_one], fun k hk => by omega⟩, fun i hi => by omega, by omega, by omega, by omega, by omega, by omega, by omega, by omega, by omega, by omega, by omega, fun i hi => by omega, fun i k _ hk => by omega, Nat.le_refl _⟩, MemoOK.of_blk _ f1, by omega, by omega, by omega, by omega, by omega⟩
  case rx0_1_2_4_5_6_3 =>
   obtain ⟨W4, hW4⟩ : ∃ W4 : World, W4 = ((((Wq.alloc (.cells C2 130)).alloc (.cells C1 110)).alloc (.map #[] 0)).alloc (.cells #[.slice pA pn pc, .slice (some ⟨Wq.heap.size + 1, 0, none⟩) pn pn, .slice (some ⟨Wq.heap.size, 0, none⟩) pn pn, .map (some (Wq.heap.size + 1 + 1))] 134)).drew := ⟨_, rfl⟩
   rw [← hW4]
   obtain ⟨f0, f1, f2, f3, fs, fl⟩ := four_blks Wq _ _ _ _ W4 hW4
   have hl4 : Later wb W4 := hLq.trans fl
   have hq0 := hLq.size
   clear hW4
   obtain ⟨z3, hz3⟩ : ∃ z, z = Wq.heap.size + 1 + 1 + 1 := ⟨_, rfl⟩
   obtain ⟨z2, hz2⟩ : ∃ z, z = Wq.heap.size + 1 + 1 := ⟨_, rfl⟩
   obtain ⟨z1, hz1⟩ : ∃ z, z = Wq.heap.size + 1 := ⟨_, rfl⟩
   obtain ⟨z0, hz0⟩ : ∃ z, z = Wq.heap.size := ⟨_, rfl⟩
   rw [← hz3] at f3 ⊢
   rw [← hz2] at f2 ⊢
   rw [← hz1] at f1 ⊢
   rw [← hz0] at f0 ⊢
   try rw [← hz2] at f3
   try rw [← hz1] at f3
   try rw [← hz0] at f3
   obtain ⟨zz, hzz⟩ : ∃ z, z = z3 + 1 := ⟨_, rfl⟩
   exact key W4 z3 z1 z0 z2 zz hl4 ⟨⟨f3, ⟨C1, f1, hC1, fun k hk => by omega⟩, ⟨C2, f0, by rw [hC2, Nat.mul_one], fun k hk => by omega⟩, fun i hi => by omega, by omega, by omega, by omega, by omega, by omega, by omega, by omega, by omega, by omega, by omega, fun i hi => by omega, fun i k _ hk => by omega, Nat.le_refl _⟩, MemoOK.of_blk _ f2, by omega, by omega, by omega, by omega, by omega⟩
  case rx0_1_2_3_4_5_7 =>
   obtain ⟨W4, hW4⟩ : ∃ W4 : World, W4 = ((((Wq.alloc (.cells C1 110)).alloc (.map #[] 0)).alloc (.cells C2 130)).alloc (.cells #[.slice pA pn pc, .slice (some ⟨Wq.heap.size, 0, none⟩) pn pn, .slice (some ⟨Wq.heap.size + 1 + 1, 0, none⟩) pn pn, .map (some (Wq.heap.size + 1))] 134)).drew := ⟨_, rfl⟩
   rw [← hW4]
   obtain ⟨f0, f1, f2, f3, fs, fl⟩ := four_blks Wq _ _ _ _ W4 hW4
   have hl4 : Later wb W4 := hLq.trans fl
   have hq0 := hLq.size
   clear hW4
   obtain ⟨z3, hz3⟩ : ∃ z, z = Wq.heap.size + 1 + 1 + 1 := ⟨_, rfl⟩
   obtain ⟨z2, hz2⟩ : ∃ z, z = Wq.heap.size + 1 + 1 := ⟨_, rfl⟩
   obtain ⟨z1, hz1⟩ : ∃ z, z = Wq.heap.size + 1 := ⟨_, rfl⟩
   obtain ⟨z0, hz0⟩ : ∃ z, z = Wq.heap.size := ⟨_, rfl⟩
   rw [← hz3] at f3 ⊢
   rw [← hz2] at f2 ⊢
   rw [← hz1] at f1 ⊢
   rw [← hz0] at f0 ⊢
   try rw [← hz2] at f3
   try rw [← hz1] at f3
   try rw [← hz0] at f3
   obtain ⟨zz, hzz⟩ : ∃ z, z = z3 + 1 := ⟨_, rfl⟩
   exact key W4 z3 z0 z2 z1 zz hl4 ⟨⟨f3, ⟨C1, f0, hC1, fun k hk => by omega⟩, ⟨C2, f2, by rw [hC2, Nat.mul_one], fun k hk => by omega⟩, fun i hi => by omega, by omega, by omega, by omega, by omega, by omega, by omega, by omega, by omega, by omega, by omega, fun i hi => by omega, fun i k _ hk => by omega, Nat.le_refl _⟩, MemoOK.of_blk _ f1, by omega, by omega, by omega, by omega, by omega⟩
  case rx0_1_2_3_4_5_6 =>
   obtain ⟨W4, hW4⟩ : ∃ W4 : World, W4 = ((((Wq.alloc (.cells C1 110)).alloc (.cells C2 130)).alloc (.map #[] 0)).alloc (.cells #[.slice pA pn pc, .slice (some ⟨Wq.heap.size, 0, none⟩) pn pn, .slice (some ⟨Wq.heap.size + 1, 0, none⟩) pn pn, .map (some (Wq.heap.size + 1 + 1))] 134)).drew := ⟨_, rfl⟩
   rw [← hW4]
   obtain ⟨f0, f1, f2, f3, fs, fl⟩ := four_blks Wq _ _ _ _ W4 hW4
   have hl4 : Later wb W4 := hLq.trans fl
   have hq0 := hLq.size
   clear hW4
   obtain ⟨z3, hz3⟩ : ∃ z, z = Wq.heap.size + 1 + 1 + 1 := ⟨_, rfl⟩
   obtain ⟨z2, hz2⟩ : ∃ z, z = Wq.heap.size + 1 + 1 := ⟨_, rfl⟩
   obtain ⟨z1, hz1⟩ : ∃ z, z = Wq.heap.size + 1 := ⟨_, rfl⟩
   obtain ⟨z0, hz0⟩ : ∃ z, z = Wq.heap.size := ⟨_, rfl⟩
   rw [← hz3] at f3 ⊢
   rw [← hz2] at f2 ⊢
   rw [← hz1] at f1 ⊢
   rw [← hz0] at f0 ⊢
   try rw [← hz2] at f3
   try rw [← hz1] at f3
   try rw [← hz0] at f3
   obtain ⟨zz, hzz⟩ : ∃ z, z = z3 + 1 := ⟨_, rfl⟩
   exact key W4 z3 z0 z1 z2 zz hl4 ⟨⟨f3, ⟨C1, f0, hC1, fun k hk => by omega⟩, ⟨C2, f1, by rw [hC2, Nat.mul_one], fun k hk => by omega⟩, fun i hi => by omega, by omega, by omega, by omega, by omega, by omega, by omega, by omega, by omega, by omega, by omega, fun i hi => by omega, fun i k _ hk => by omega, Nat.le_refl _⟩, MemoOK.of_blk _ f2, by omega, by omega, by omega, by omega, by omega⟩
 intro W4 gx gs gp b z4 L4 ⟨hS, hM, hx4, hs4, hp4, hb4, hz4⟩
 haveI := L4
 haveI ngs : New wb gs := ⟨hs4⟩
 haveI ngp : New wb gp := ⟨hp4⟩
 have HS4 := Lib.hid hS
 have HM4 := Lib.hid hM
 clear hS hM hmm hmk2 hbs
 go_wp2
 go_loopw [30] (fun iv wr => ∃ (i : Nat) (g : Nat → Nat), i ≤ pn ∧ iv = .int .i64 (i : Int) ∧ Hid (NcSt 134 110 130 pn A P (.slice pA pn pc) z4 wr gx gs gp b g i i i) ∧ Hid (MemoOK (memoB pn A P) wr b 0) ∧ Hid (∀ k, k < i → g k < wr.heap.size) ∧ Hid (z4 ≤ wr.heap.size) ∧ Later wb wr) (fun iv _ => pn - (intOf iv).toNat)
 case atStart => exact ⟨0, _, by omega, rfl, HS4, HM4, Lib.hid (fun k hk => by omega), hz4, inferInstance⟩
 case round =>
  obtain ⟨i, g, hi, rfl, HS, HM, HG, HZ, hX⟩ := hrel
  have hxc := HS.out.xc
  by_cases hlt : i < pn
  ·obtain ⟨b1, o1, A1, n1, c1, x, rfl, hx, hc0, hi1⟩ := Sl.row_ hP hlt
   have HI := Lib.hid hi1
   have HPK := Lib.hid (pcK_of hx.out)
   have hxl : x.length ≤ 12 := by have := len_flat (List.mem_of_getElem? hx.out); omega
   have HF1 : Hid (Fits (Duty.mk [x]).Pieces) := ⟨by simp; omega, by simp; omega⟩
   have hil : (i : Int) < (pn : Int) := by omega
   obtain ⟨u, v, huv⟩ : ∃ u v, prOf (paidOr t f bs r (Duty.mk [x]).Pieces) = (u, v) := ⟨_, _, rfl⟩
   have HUV := Lib.hid huv
   have HSG : Hid (sgP A i = (u, v)) := by show _ = _; rw [sgP_of, HA.out, ← huv]; unfold pcA; rw [HPK.out]
   obtain ⟨y0, y1, hy0, hy1, hyf⟩ := HS.out.s.cells hlt
   have tX := Touch.cells HS.out.x (show gx ∉ [gs] by simpa using HS.out.xs)
   clear huv hi1 hxl hx
   have hD1 := Lib.hid (duty_one (Blk.new wr 66 #[.slice A1 n1 c1]) (HI.out.later inferInstance))
   go_wp2_with fail
   refine gO (S := (fun w' => Touch [gs] wr w')) (by kernel_rfl) (by first | exact Touch.of_later inferInstance | exact Touch.of_later Y8 | exact (((Touch.of_later Y8).set_ (by simp) _ _).set_ (by simp) _ _)) (fun _ _ _ _ _ h => h) (fun hHeld hZq => ?_)
   refine gT 0 rfl (by kernel_rfl) (by intro w' hSw; go_simp <;> rfl) hZq hHeld ?_; simp only [Act.put, sA, sZ, sS]
   refine gT 1 rfl (by kernel_rfl) (by intro w' hSw; go_simp <;> rfl) hZq hHeld ?_; simp only [Act.put, sA, sZ, sS]
   refine gT 2 rfl (by kernel_rfl) (by intro w' hSw; go_simp <;> rfl) hZq hHeld ?_; simp only [Act.put, sA, sZ, sS]
   refine gT 3 rfl (by kernel_rfl) (by intro w' hSw; go_simp <;> rfl) hZq hHeld ?_; simp only [Act.put, sA, sZ, sS]
   refine gT 4 rfl (by kernel_rfl) (by intro w' hSw; go_simp <;> rfl) hZq hHeld ?_; simp only [Act.put, sA, sZ, sS]
   refine gT 5 rfl (by kernel_rfl) (by intro w' hSw; go_simp <;> rfl) hZq hHeld ?_; simp only [Act.put, sA, sZ, sS]
   refine gT 6 rfl (by kernel_rfl) (by intro w' hSw; go_simp <;> rfl) hZq hHeld ?_; simp only [Act.put, sA, sZ, sS]
   refine gE 7 rfl (by kernel_rfl) (fun K hK => ?_)
   go_simp
   skip
   refine hK.out _ _ (by first | exact Touch.of_later inferInstance | exact Touch.of_later Y8 | exact (((Touch.of_later Y8).set_ (by simp) _ _).set_ (by simp) _ _)) (fun hHeld => ?_)
   try simp only [Act.put, sA, sZ, sS]
   refine gE 8 rfl (by kernel_rfl) (fun K hK => ?_)
   go_simp
   (go_at_call 95; go_loud (refine (impl_cost H.out hwb0 H2.out hwb2 H3.out hwb3 HB0 HB1 HB2 HB3 (inferInstance : Later wb (wr.alloc (.cells #[.slice A1 n1 c1] 66)).drew) HOK.out hD1.out (inferInstance : Later _ (wr.alloc (.cells #[.slice A1 n1 c1] 66)).drew) HF1.out (by simp)).mono ?_; rw [HUV.out]; rintro e w8 ⟨rfl, L8⟩; have Y8 := Later.trans (w := wr) inferInstance L8; have X8 := Later.trans (w := wb) inferInstance L8))
   refine hK.out _ _ (by first | exact Touch.of_later inferInstance | exact Touch.of_later Y8 | exact (((Touch.of_later Y8).set_ (by simp) _ _).set_ (by simp) _ _)) (fun hHeld => ?_)
   try simp only [Act.put, sA, sZ, sS]
   refine gT 9 rfl (by kernel_rfl) (by intro w' hSw; go_simp <;> rfl) hZq hHeld ?_; simp only [Act.put, sA, sZ, sS]
   refine gE 10 rfl (by kernel_rfl) (fun K hK => ?_)
   go_simp
   skip
   refine hK.out _ _ (by first | exact Touch.of_later inferInstance | exact Touch.of_later Y8 | exact (((Touch.of_later Y8).set_ (by simp) _ _).set_ (by simp) _ _)) (fun hHeld => ?_)
   try simp only [Act.put, sA, sZ, sS]
   refine wpAnyH_done (by kernel_rfl) ?_ _
   obtain ⟨W5, hW5⟩ : ∃ W5 : World, W5 = (w8.setCell ⟨gs, i * 2, none⟩ (.int .i64 u)).setCell ⟨gs, i * 2 + 1, none⟩ (.int .i64 v) := ⟨_, rfl⟩
   rw [← hW5]
   have HS5 : Hid (NcSt 134 110 130 pn A P (.slice (some ⟨b1, o1, none⟩) pn pc) z4 W5 gx gs gp b g (i + 1) i i) := by rw [hW5]; exact Lib.hid ((HS.out.later Y8).putS hlt HSG.out)
   have HM5 : Hid (MemoOK (memoB pn A P) W5 b 0) := by rw [hW5]; exact Lib.hid ((HM.out.later Y8).touch (fp := [gs]) ((Touch.refl_.set_ (by simp) _ _).set_ (by simp) _ _) (by simpa using (Ne.symm HS.out.bs)))
   haveI X5 : Later wb W5 := by rw [hW5]; infer_instance
   have hz5 : wr.heap.size ≤ W5.heap.size := by rw [hW5]; simpa using Y8.size
   have hz6 := HZ.out
   have HG5 : Hid (∀ k, k < i → g k < W5.heap.size) := fun k hk => Nat.lt_of_lt_of_le (HG.out k hk) hz5
   clear hW5 tX hy0 hy1 hyf hxc
   have hxc := HS5.out.xc
   obtain ⟨yp, hyp, hypf, _⟩ := HS5.out.pc hlt
   have tX := Touch.cells HS5.out.x (show gx ∉ [gp] by simpa using HS.out.xp)
   go_wp2_with fail
   refine gO (S := (fun w' => Touch [gp] W5 w')) (by kernel_rfl) (by first | exact Touch.of_later inferInstance | exact ((Touch.of_later inferInstance).set_ (by simp) _ _) | exact ((Touch.of_later inferInstance).set_ (by simp) _ _).drew) (fun _ _ _ _ _ h => h) (fun hHeld hZq => ?_)
   refine gT 0 rfl (by kernel_rfl) (by intro w' hSw; go_simp <;> rfl) hZq hHeld ?_; simp only [Act.put, sA, sZ, sS]
   refine gT 1 rfl (by kernel_rfl) (by intro w' hSw; go_simp <;> rfl) hZq hHeld ?_; simp only [Act.put, sA, sZ, sS]
   refine gT 2 rfl (by kernel_rfl) (by intro w' hSw; go_simp <;> rfl) hZq hHeld ?_; simp only [Act.put, sA, sZ, sS]
   refine gT 3 rfl (by kernel_rfl) (by intro w' hSw; go_simp <;> rfl) hZq hHeld ?_; simp only [Act.put, sA, sZ, sS]
   refine gT 4 rfl (by kernel_rfl) (by intro w' hSw; go_simp <;> rfl) hZq hHeld ?_; simp only [Act.put, sA, sZ, sS]
   refine gT 5 rfl (by kernel_rfl) (by intro w' hSw; go_simp <;> rfl) hZq hHeld ?_; simp only [Act.put, sA, sZ, sS]
   refine gT 6 rfl (by kernel_rfl) (by intro w' hSw; go_simp <;> rfl) hZq hHeld ?_; simp only [Act.put, sA, sZ, sS]
   refine gE 7 rfl (by kernel_rfl) (fun K hK => ?_)
   go_simp
   skip
   refine hK.out _ _ (by first | exact Touch.of_later inferInstance | exact ((Touch.of_later inferInstance).set_ (by simp) _ _) | exact ((Touch.of_later inferInstance).set_ (by simp) _ _).drew) (fun hHeld => ?_)
   try simp only [Act.put, sA, sZ, sS]
   refine gT 8 rfl (by kernel_rfl) (by intro w' hSw; go_simp <;> rfl) hZq hHeld ?_; simp only [Act.put, sA, sZ, sS]
   refine gE 9 rfl (by kernel_rfl) (fun K hK => ?_)
   go_simp
   skip
   refine hK.out _ _ (by first | exact Touch.of_later inferInstance | exact ((Touch.of_later inferInstance).set_ (by simp) _ _) | exact ((Touch.of_later inferInstance).set_ (by simp) _ _).drew) (fun hHeld => ?_)
   try simp only [Act.put, sA, sZ, sS]
   refine wpAnyH_done (by kernel_rfl) ?_ _
   obtain ⟨gi, hgi⟩ : ∃ gi, gi = W5.heap.size := ⟨_, rfl⟩
   obtain ⟨W6, hW6⟩ : ∃ W6 : World, W6 = ((W5.alloc (.cells C1 110)).setCell ⟨gp, i, none⟩ (.slice (some ⟨W5.heap.size, 0, none⟩) pn pn)).drew := ⟨_, rfl⟩
   rw [← hW6]
   obtain ⟨hS6, hR6⟩ := HS5.out.putP hlt hC1 (by omega) HG5.out (prP P i)
   have hd6 : Later ((W5.alloc (.cells C1 110)).setCell ⟨gp, i, none⟩ (.slice (some ⟨W5.heap.size, 0, none⟩) pn pn)) ((W5.alloc (.cells C1 110)).setCell ⟨gp, i, none⟩ (.slice (some ⟨W5.heap.size, 0, none⟩) pn pn)).drew := inferInstance
   have HS6 := Lib.hid (hS6.later hd6)
   have HR6 := Lib.hid (hR6.later hd6)
   clear hd6
   have hTa : Touch [gp] W5 W6 := by rw [hW6]; exact ((Touch.of_later (inferInstance : Later W5 (W5.alloc _))).set_ (by simp) _ _).drew
   have HM6 : Hid (MemoOK (memoB pn A P) W6 b 0) := Lib.hid (HM5.out.touch hTa (by simpa using (Ne.symm HS.out.bp)))
   clear hTa
   haveI X6 : Later wb W6 := by rw [hW6]; infer_instance
   have h6s : Hid (W6.heap.size = gi + 1) := by show _ = _; rw [hW6, hgi]; simp
   rw [← hW6, ← hgi] at HS6 HR6
   rw [← hgi] at HG5
   rw [← hgi]
   have hzg : z4 ≤ gi := by omega
   have hwg : wb.heap.size ≤ gi := by have := X5.size; omega
   clear hS6 hR6 hW6 tX hyp hypf hxc HS HM HG HZ HS5 HM5 hz5 hz6 hgi
   have Q1 : Hid (∀ z, z ∈ [gi] → z4 ≤ z ∧ ∀ k, k < i → (fun k => if k = i then gi else g k) k ≠ z) := fun z hz => by
    rw [List.mem_singleton.1 hz]
    refine ⟨hzg, fun k hk => ?_⟩
    have := HG5.out k hk
    dsimp only
    rw [if_neg (by omega)]
    omega
   go_wp2
   go_loopw [56] (fun kv wr => ∃ k : Nat, k ≤ pn ∧ kv = .int .i64 (k : Int) ∧ Hid (NcRow 110 pn (prP P i) wr gi k) ∧ Hid (Touch [gi] W6 wr)) (fun kv _ => pn - (intOf kv).toNat)
   case atStart => exact ⟨0, by omega, rfl, HR6, Lib.hid Touch.refl_⟩
   case round =>
    obtain ⟨k, hk, rfl, HR, HT⟩ := hrel
    haveI X7 : Later wb wr := HT.out.later X6 (fun z hz => by rw [List.mem_singleton.1 hz]; exact hwg)
    have HSr := Lib.hid (HS6.out.touch HT.out Q1.out)
    have hxc := HSr.out.xc
    obtain ⟨yp, hyp, _, hye⟩ := HSr.out.pc hlt
    have hye := hye (by omega)
    try dsimp only at hye
    rw [if_pos rfl] at hye
    subst hye
    by_cases hkl : k < pn
    ·obtain ⟨b2, o2, A2, n2, c2, y, hA2, hy, hc2, hi2⟩ := Sl.row_ hP hkl
     cases hA2
     have HI2 := Lib.hid hi2
     have HPK2 := Lib.hid (pcK_of hy.out)
     have hxl : x.length ≤ 12 := by have h1 := HPK.out; have h2 := len_flat (bs := ps) (x := x) (by rw [← h1]; unfold pcK; rw [List.getD_eq_getElem?_getD, List.getElem?_eq_getElem (by have := HMD.out; omega)]; exact List.getElem_mem _); omega
     have hyl : y.length ≤ 12 := by have := len_flat (List.mem_of_getElem? hy.out); omega
     have HF2 : Hid (Fits (Duty.mk [x, y]).Pieces) := ⟨by simp; omega, by simp; omega⟩
     have hkil : (k : Int) < (pn : Int) := by omega
     obtain ⟨q0, q1, hq0, hq1, hqf⟩ := HR.out.cells hkl
     clear hi2 hxl hyl hy
     by_cases hik : i = k
     ·subst hik
      have HPE : Hid (prP P i i = (1073741824, 0)) := by show _ = _; rw [prP_of, HPP.out]; unfold pcP; rw [if_pos rfl]; rfl
      have hd1 : ((i : Int) == (i : Int)) = true := by simp
      go_wp2_with fail
      go_roundw
      case rel => exact ⟨i + 1, by omega, by go_num, Lib.hid (by exact HR.out.put hkl HPE.out), Lib.hid ((HT.out.set_ (by simp) _ _).set_ (by simp) _ _)⟩
      case measure => simp [intOf]; omega
     ·have hdi : ¬ (i : Int) = (k : Int) := by omega
      have hd1 := (beqi_f hdi).1
      have hd2 := (beqi_f hdi).2
      obtain ⟨u2, v2, huv⟩ : ∃ u v, prOf (paidOr t f bs r (Duty.mk [x, y]).Pieces) = (u, v) := ⟨_, _, rfl⟩
      have HUV2 := Lib.hid huv
      have HPE : Hid (prP P i k = (u2, v2)) := by show _ = _; rw [prP_of, HPP.out, ← huv]; unfold pcP; rw [if_neg hik, HPK.out, HPK2.out]
      clear huv
      iterate 120 (try (first | go_skip | go_guarded | go_step | go_upon))
      obtain ⟨W7, hW7⟩ : ∃ W7 : World, W7 = (wr.setCell ⟨gi, k * 2, none⟩ (.int .i64 1073741824)).setCell ⟨gi, k * 2 + 1, none⟩ (.int .i64 0) := ⟨_, rfl⟩
      have hT7 : Touch [gi] wr W7 := by rw [hW7]; exact (Touch.refl_.set_ (by simp) _ _).set_ (by simp) _ _
      have HR7 : Hid (NcRow 110 pn (prP P i) W7 gi k) := by rw [hW7]; exact Lib.hid (HR.out.any (Nat.le_refl _) _ _)
      haveI X8 : Later wb W7 := hT7.later X7 (fun z hz => by rw [List.mem_singleton.1 hz]; exact hwg)
      have HT7 := Lib.hid (HT.out.trans hT7)
      have hS7 := HS6.out.touch HT7.out Q1.out
      have tX := Touch.cells hS7.x (show gx ∉ [gi] by have := hS7.hx; simp; omega)
      obtain ⟨cs7, p71, p72, p73⟩ := hS7.p
      have hp7 := p73 i (by omega)
      try dsimp only at hp7
      rw [if_pos rfl] at hp7
      have tP : ∀ W', Touch [gi] W7 W' → W'.cell? ⟨gp, i, none⟩ = some (.slice (some ⟨gi, 0, none⟩) pn pn) := fun W' hT => (Touch.cells p71 (show gp ∉ [gi] by have := hS7.hp; simp; omega) W' hT i).trans hp7
      obtain ⟨q2, q3, hq2, hq3, hqf7⟩ := HR7.out.cells hkl
      have hD2 := Lib.hid (duty_two (Blk.new W7 66 #[.slice A1 n1 c1, .slice A2 n2 c2]) (HI.out.later inferInstance) (HI2.out.later inferInstance))
      rw [← hW7]
      clear hS7 p71 p72 p73 hp7 hT7 hW7
      clear hq0 hq1 hqf hxc hyp
      refine gO (S := (fun w' => Touch [gi] W7 w')) (by kernel_rfl) (by first | exact Touch.of_later inferInstance | exact Touch.of_later Y9 | exact (((Touch.of_later Y9).set_ (by simp) _ _).set_ (by simp) _ _)) (fun _ _ _ _ _ h => h) (fun hHeld hZq => ?_)
      refine gT 0 rfl (by kernel_rfl) (by intro w' hSw; go_simp <;> rfl) hZq hHeld ?_; simp only [Act.put, sA, sZ, sS]
      refine gT 1 rfl (by kernel_rfl) (by intro w' hSw; go_simp <;> rfl) hZq hHeld ?_; simp only [Act.put, sA, sZ, sS]
      refine gT 2 rfl (by kernel_rfl) (by intro w' hSw; go_simp <;> rfl) hZq hHeld ?_; simp only [Act.put, sA, sZ, sS]
      refine gT 3 rfl (by kernel_rfl) (by intro w' hSw; go_simp <;> rfl) hZq hHeld ?_; simp only [Act.put, sA, sZ, sS]
      refine gT 4 rfl (by kernel_rfl) (by intro w' hSw; go_simp <;> rfl) hZq hHeld ?_; simp only [Act.put, sA, sZ, sS]
      refine gT 5 rfl (by kernel_rfl) (by intro w' hSw; go_simp <;> rfl) hZq hHeld ?_; simp only [Act.put, sA, sZ, sS]
      refine gT 6 rfl (by kernel_rfl) (by intro w' hSw; go_simp <;> rfl) hZq hHeld ?_; simp only [Act.put, sA, sZ, sS]
      refine gT 7 rfl (by kernel_rfl) (by intro w' hSw; go_simp <;> rfl) hZq hHeld ?_; simp only [Act.put, sA, sZ, sS]
      refine gT 8 rfl (by kernel_rfl) (by intro w' hSw; go_simp <;> rfl) hZq hHeld ?_; simp only [Act.put, sA, sZ, sS]
      refine gT 9 rfl (by kernel_rfl) (by intro w' hSw; go_simp <;> rfl) hZq hHeld ?_; simp only [Act.put, sA, sZ, sS]
      refine gT 10 rfl (by kernel_rfl) (by intro w' hSw; go_simp <;> rfl) hZq hHeld ?_; simp only [Act.put, sA, sZ, sS]
      refine gE 11 rfl (by kernel_rfl) (fun K hK => ?_)
      go_simp
      skip
      refine hK.out _ _ (by first | exact Touch.of_later inferInstance | exact Touch.of_later Y9 | exact (((Touch.of_later Y9).set_ (by simp) _ _).set_ (by simp) _ _)) (fun hHeld => ?_)
      try simp only [Act.put, sA, sZ, sS]
      refine gE 12 rfl (by kernel_rfl) (fun K hK => ?_)
      go_simp
      (go_at_call 95; go_loud (refine (impl_cost H.out hwb0 H2.out hwb2 H3.out hwb3 HB0 HB1 HB2 HB3 (inferInstance : Later wb (W7.alloc (.cells #[.slice A1 n1 c1, .slice A2 n2 c2] 66)).drew) HOK.out hD2.out (inferInstance : Later _ (W7.alloc (.cells #[.slice A1 n1 c1, .slice A2 n2 c2] 66)).drew) HF2.out (by simp)).mono ?_; rw [HUV2.out]; rintro e w9 ⟨rfl, L9⟩; have Y9 := Later.trans (w := W7) inferInstance L9))
      refine hK.out _ _ (by first | exact Touch.of_later inferInstance | exact Touch.of_later Y9 | exact (((Touch.of_later Y9).set_ (by simp) _ _).set_ (by simp) _ _)) (fun hHeld => ?_)
      try simp only [Act.put, sA, sZ, sS]
      refine gT 13 rfl (by kernel_rfl) (by intro w' hSw; go_simp <;> rfl) hZq hHeld ?_; simp only [Act.put, sA, sZ, sS]
      refine gE 14 rfl (by kernel_rfl) (fun K hK => ?_)
      go_simp
      skip
      refine hK.out _ _ (by first | exact Touch.of_later inferInstance | exact Touch.of_later Y9 | exact (((Touch.of_later Y9).set_ (by simp) _ _).set_ (by simp) _ _)) (fun hHeld => ?_)
      try simp only [Act.put, sA, sZ, sS]
      refine wpAnyH_done (by kernel_rfl) ?_ _
      go_wp2
      go_roundw
      case rel => exact ⟨k + 1, by omega, by go_num, Lib.hid ((HR7.out.later Y9).put hkl HPE.out), Lib.hid (((HT7.out.trans (Touch.of_later Y9)).set_ (by simp) _ _).set_ (by simp) _ _)⟩
      case measure => simp [intOf]; omega
    ·have hkm : k = pn := by omega
     have HRD : Hid (NcRow 110 pn (prP P i) wr gi pn) := by have := HR; rw [hkm] at this; exact this
     have HSD := Lib.hid (HSr.out.row (by (try dsimp only); rw [if_pos rfl]; exact HRD.out))
     have HMD2 := Lib.hid (HM6.out.touch HT.out (by have := HS6.out.hb; simp; omega))
     have hszr := HT.out.size
     have h6s2 := h6s.out
     have HGD : Hid (∀ k, k < i + 1 → (fun k => if k = i then gi else g k) k < wr.heap.size) := fun k hk => by
      try dsimp only
      split
      ·omega
      ·have := HG5.out k (by omega); omega
     have hzr : z4 ≤ wr.heap.size := by omega
     clear hxc hyp hszr h6s2
     go_wp2
     go_roundw
     case rel => exact ⟨i + 1, _, by omega, by go_num, Lib.hid (HSD.out.later inferInstance), Lib.hid (HMD2.out.later inferInstance), Lib.hid (fun k hk => Nat.lt_of_lt_of_le (HGD.out k hk) (Later.size (w := wr) inferInstance)), Lib.hid (Nat.le_trans hzr (Later.size (w := wr) inferInstance)), inferInstance⟩
     case measure => simp [intOf]; omega
  ·have him : i = pn := by omega
   subst him
   have HSD := Lib.hid HS.out.done
   have hww2 := hww.size
   have HCN : Hid (CutNew w.heap.size i gx gs gp b g) := ⟨by omega, by omega, by omega, by omega, fun k hk => by have h9 := HS.out.hg k hk; have h10 := HS.out.hx; omega⟩
   clear hxc hww2
   go_wp2
   go_ret
   exact ⟨gx, gs, gp, b, g, rfl, HSD.out.later inferInstance, HM.out.later inferInstance, hww.trans inferInstance, HCN.out⟩
end Go.Proofs.YtknhebakebmlcaaGreat
