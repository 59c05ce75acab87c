/-
 FewestDuties: the reference's plan is made (l13Make).
-/
import Derived.Test.YtknhebakebmlcaaGreatDpV
import Derived.Test.YtknhebakebmlcaaGreatDpW
import Derived.Test.YtknhebakebmlcaaGreatDpR
import Derived.Test.YtknhebakebmlcaaGreatDpQ
import Derived.Test.YtknhebakebmlcaaGreatDpA
import Derived.Test.YtknhebakebmlcaaGreatDpK
namespace Go.Proofs.YtknhebakebmlcaaGreat
open Go Go.RowKit
set_option linter.unusedVariables false
set_option maxRecDepth 100000
set_option linter.unusedSimpArgs false
/-- A plan of the pieces ps in blocks of its own. -/
def MakeR (tp tk : TypeId) (t : Timetable) (f : Fleet) (bs : List (List Int)) (r : Rules) (ps : List (List Int)) (w : World) (e : Ending) (W' : World) : Prop :=
 ∃ px gk pA pc aA ac qA qc fa fq fp, e = .returned (.pointer (some ⟨px, 0, none⟩)) ∧ PlanOK tp tk ps.length (pcA t f bs r ps) (pcP t f bs r ps) 0 W' (.slice pA ps.length pc) aA ac qA qc px gk fa fq ∧ OSl 1 (oSl 1 oInt) W' pA ps.length pc ps fp ∧ px ∉ fp ∧ w.heap.size ≤ px ∧ w.heap.size ≤ gk ∧ (∀ b, b ∈ fp → w.heap.size ≤ b) ∧ fp.Nodup ∧ Later w W'
theorem plan_in {t : Timetable} {f : Fleet} {bs : List (List Int)} {r : Rules} {ps : List (List Int)} (hok : okRuled t f bs r = true) (hm : ps.length ≤ 8) : PlanIn ps.length (pcA t f bs r ps) (pcP t f bs r ps) :=
 ⟨hm, fun k => paidOr_in hok (by simp), fun i k => by
  unfold pcP
  split
  ·omega
  ·exact paidOr_in hok (by simp)⟩
theorem waysM {G : Prop} {wb : World} (P : World → Nat → Nat → Nat → Prop) (R : World → Nat → Nat → Nat → Prop) (main : (∀ W g c n, Later wb W → P W g c n → R W g c n) → G) (key : ∀ W g c n, Later wb W → P W g c n → R W g c n) : G := main key
set_option maxHeartbeats 4000000 in
theorem spec_l13Make {w0 w w2 w3 : World} {sA0 : Option Addr} {sn0 sc0 : Nat} {sA1 : Option Addr} {sn1 sc1 : Nat} {sA2 : Option Addr} {sn2 sc2 : Nat} {t : Timetable} (h : TimetableAt w0 sA0 sn0 sc0 sA1 sn1 sc1 sA2 sn2 sc2 t) (hl : Later w0 w) {qA0 : Option Addr} {qn0 qc0 : Nat} {f : Fleet} (h2 : FleetAt w2 qA0 qn0 qc0 f) (hl2 : Later w2 w) {bA : Option Addr} {bn bc : Nat} {bs : List (List Int)} (h3 : Sl 1 (rSl 1 rInt) w3 bA bn bc bs) (hl3 : Later w3 w) (r : Rules) (hok : okRuled t f bs r = true) (ht8 : t.Trips.length ≤ 8) (c : Nat) : Calls Tryz.prog 64 #[.agg #[.slice sA0 sn0 sc0, .slice sA1 sn1 sc1, .slice sA2 sn2 sc2], .agg #[.slice qA0 qn0 qc0, .int .i64 f.Turn], .slice bA bn bc, .agg #[.int .i64 r.SignOn, .int .i64 r.SignOff, .int .i64 r.MaxDrive, .int .i64 r.MinBreak, .int .i64 r.PaidBreak, .int .i64 r.MaxLength], .int .i64 (c : Int)] w (MakeR 107 3 t f bs r (cutAll t (c : Int) bs) w) := by
 have HB0 : ∀ W [Later (((w.alloc (.cells #[.slice sA0 sn0 sc0, .slice sA1 sn1 sc1, .slice sA2 sn2 sc2] 44)).alloc (.cells #[.slice qA0 qn0 qc0, .int .i64 f.Turn] 46)).alloc (.cells #[.int .i64 r.SignOn, .int .i64 r.SignOff, .int .i64 r.MaxDrive, .int .i64 r.MinBreak, .int .i64 r.PaidBreak, .int .i64 r.MaxLength] 49)) W] (j : Nat), W.cell? ⟨w.heap.size, j, none⟩ = #[.slice sA0 sn0 sc0, .slice sA1 sn1 sc1, .slice sA2 sn2 sc2][j]? := Later.boxes (t := 44) (fr := (0, 0)) ((heap_old (by simp; try omega)).trans ((heap_old (by simp; try omega)).trans (heap_new (by simp; try omega)))); have HB1 : ∀ W [Later (((w.alloc (.cells #[.slice sA0 sn0 sc0, .slice sA1 sn1 sc1, .slice sA2 sn2 sc2] 44)).alloc (.cells #[.slice qA0 qn0 qc0, .int .i64 f.Turn] 46)).alloc (.cells #[.int .i64 r.SignOn, .int .i64 r.SignOff, .int .i64 r.MaxDrive, .int .i64 r.MinBreak, .int .i64 r.PaidBreak, .int .i64 r.MaxLength] 49)) W] (j : Nat), W.cell? ⟨w.heap.size + 1, j, none⟩ = #[.slice qA0 qn0 qc0, .int .i64 f.Turn][j]? := Later.boxes (t := 46) (fr := (0, 0)) ((heap_old (by simp; try omega)).trans (heap_new (by simp; try omega))); have HB2 : ∀ W [Later (((w.alloc (.cells #[.slice sA0 sn0 sc0, .slice sA1 sn1 sc1, .slice sA2 sn2 sc2] 44)).alloc (.cells #[.slice qA0 qn0 qc0, .int .i64 f.Turn] 46)).alloc (.cells #[.int .i64 r.SignOn, .int .i64 r.SignOff, .int .i64 r.MaxDrive, .int .i64 r.MinBreak, .int .i64 r.PaidBreak, .int .i64 r.MaxLength] 49)) W] (j : Nat), W.cell? ⟨w.heap.size + 1 + 1, j, none⟩ = #[.int .i64 r.SignOn, .int .i64 r.SignOff, .int .i64 r.MaxDrive, .int .i64 r.MinBreak, .int .i64 r.PaidBreak, .int .i64 r.MaxLength][j]? := Later.boxes (t := 49) (fr := (0, 0)) (heap_new (by simp; try omega)); obtain ⟨wb, hwb⟩ : ∃ wb : World, wb = (((w.alloc (.cells #[.slice sA0 sn0 sc0, .slice sA1 sn1 sc1, .slice sA2 sn2 sc2] 44)).alloc (.cells #[.slice qA0 qn0 qc0, .int .i64 f.Turn] 46)).alloc (.cells #[.int .i64 r.SignOn, .int .i64 r.SignOff, .int .i64 r.MaxDrive, .int .i64 r.MinBreak, .int .i64 r.PaidBreak, .int .i64 r.MaxLength] 49)) := ⟨_, rfl⟩; haveI hbW : Later wb (((w.alloc (.cells #[.slice sA0 sn0 sc0, .slice sA1 sn1 sc1, .slice sA2 sn2 sc2] 44)).alloc (.cells #[.slice qA0 qn0 qc0, .int .i64 f.Turn] 46)).alloc (.cells #[.int .i64 r.SignOn, .int .i64 r.SignOff, .int .i64 r.MaxDrive, .int .i64 r.MinBreak, .int .i64 r.PaidBreak, .int .i64 r.MaxLength] 49)) := (by rw [hwb]; exact Later.rfl_); haveI hww : Later w wb := (by rw [hwb]; infer_instance); rw [← hwb] at HB0; rw [← hwb] at HB1; rw [← hwb] at HB2; have hbE := Lib.hid (congrArg (fun x : World => x.heap.size) hwb); clear hwb
 have hwb0 := hl.trans hww
 have hwb2 := hl2.trans hww
 have hwb3 := hl3.trans hww
 have H := Lib.hid h
 have H2 := Lib.hid h2
 have H3 := Lib.hid h3
 clear h h2 h3
 have hwb := Lib.hid hbE.out
 clear hbE
 have HOK := Lib.hid hok
 have H8 := Lib.hid ht8
 have DF := Lib.hid (deadFacts (okRuled_blocks HOK.out))
 have H12 := Lib.hid (flat12 (okRuled_blocks HOK.out))
 have HPC := Lib.hid (pcsC hok ht8 (c : Int))
 obtain ⟨ps, hps⟩ : ∃ ps, cutAll t (c : Int) bs = ps := ⟨_, rfl⟩
 have HPS := Lib.hid hps
 rw [hps] at HPC ⊢
 clear hok ht8 hps
 go_enter Tryz.func64, Tryz.ntmps64
 go_wp2_with (go_at_call 88; go_loud (refine (spec_l13Pieces H.out (hwb0.trans inferInstance) H3.out (hwb3.trans inferInstance) DF.out H8.out (c : Int) H12.out).mono ?_; rw [HPS.out]; rintro e w1 ⟨pA, pn, pc, fp, rfl, hP1, hpn, hpf, L1⟩; have HP1 := Lib.hid hP1; have HPN := Lib.hid hpn; have HPF := Lib.hid hpf; clear hP1 hpn hpf))
 obtain rfl : pn = ps.length := HP1.out.len
 have X1 := Later.trans (w := wb) inferInstance L1
 have Z1 : Later w w1 := hww.trans X1
 have hm8 := HPC.out.m8
 obtain ⟨w5, hw5⟩ : ∃ W : World, W = w1.alloc (.cells #[.slice pA ps.length pc, .slice none 0 0, .slice none 0 0, .int .i64 0, .slice none 0 0] 107) := ⟨_, rfl⟩
 rw [← hw5]
 have hXB : Blk w5 w1.heap.size 107 #[.slice pA ps.length pc, .slice none 0 0, .slice none 0 0, .int .i64 0, .slice none 0 0] := by rw [hw5]; exact Blk.new _ _ _
 haveI L5 : Later w1 w5 := by rw [hw5]; infer_instance
 have HPX1 : Hid (w1.heap.size < w5.heap.size) := Lib.hid hXB.lt
 obtain ⟨px, hpx⟩ : ∃ px, px = w1.heap.size := ⟨_, rfl⟩
 have HPX2 : Hid (w.heap.size ≤ px ∧ w1.heap.size ≤ px) := Lib.hid ⟨by rw [hpx]; exact Z1.size, by omega⟩
 rw [← hpx] at hXB HPX1 ⊢
 have HXB := Lib.hid hXB
 have X5 : Later wb w5 := X1.trans L5
 have Z5 : Later w w5 := Z1.trans L5
 clear hw5 hpx hXB
 have HPR : Hid (Sl 1 (rSl 1 rInt) w1 pA ps.length pc ps) := HP1.out.reads
 obtain ⟨base, hbase⟩ : ∃ b, b = w5.heap.size := ⟨_, rfl⟩
 have HBA : Hid (px < base ∧ wb.heap.size ≤ base ∧ w1.heap.size ≤ base ∧ w.heap.size ≤ base) := Lib.hid ⟨by rw [hbase]; exact HPX1.out, by rw [hbase]; exact X5.size, by rw [hbase]; exact L5.size, by rw [hbase]; exact Z5.size⟩
 have HBS : Hid (base ≤ w5.heap.size) := Lib.hid (Nat.le_of_eq hbase)
 clear hbase HPX1
 go_loopw [12] (fun iv wr => ∃ (i : Nat) (av qv : Value) (L : List RowV), i ≤ ps.length ∧ iv = .int .i64 (i : Int) ∧ Hid (MkI 107 66 3 base px (.slice pA ps.length pc) ps.length (pcA t f bs r ps) (pcP t f bs r ps) i i wr av qv L) ∧ Later wb wr ∧ Later w wr ∧ Later w1 wr) (fun iv _ => ps.length - (intOf iv).toNat)
 case atStart => exact ⟨0, .slice none 0 0, .slice none 0 0, [], by omega, rfl, Lib.hid ⟨HXB.out, World.ownsRow_nil _ _ _ _, RowS.nil_ _ _ _, rfl, by simp [blksR], by simp [Value.ownBlock], HBA.out.1, HBS.out⟩, X5, Z5, L5⟩
 case round =>
  obtain ⟨i, av, qv, L, hi, rfl, HM, Y1, Y2, Y3⟩ := hrel
  have hxs : ∀ W' [Later wr W'] (j : Nat), W'.cell? ⟨px, j, none⟩ = (#[.slice pA ps.length pc, av, qv, .int .i64 0, .slice none 0 0] : Array Value)[j]? := fun W' hW' j => (HM.out.x.later hW').cell j
  by_cases hlt : i < ps.length
  ·obtain ⟨b1, o1, A1, n1, c1, x, rfl, hx, hc0, hi1⟩ := Sl.row_ HPR.out hlt
   have HI := Lib.hid hi1
   have HPK := Lib.hid (pcK_of hx.out)
   have hxl : x.length ≤ 12 := by have := len_flat (List.mem_of_getElem? hx.out); have := HPC.out.p12; omega
   have HF1 : Hid (Fits (Duty.mk [x]).Pieces) := ⟨by simp; omega, by simp; omega⟩
   have hil : (i : Int) < (ps.length : Int) := by omega
   have hiN : i ≤ 1073741824 := by omega
   obtain ⟨ai, hai⟩ : ∃ a, paidOr t f bs r (Duty.mk [x]).Pieces = a := ⟨_, rfl⟩
   have HAI := Lib.hid hai
   have HPA : Hid (pcA t f bs r ps i = ai) := by show _ = _; unfold pcA; rw [HPK.out]; exact hai
   have hoB : Hid (∀ g, av.ownBlock = some g → wb.heap.size ≤ g ∧ w1.heap.size ≤ g ∧ w.heap.size ≤ g) := fun g hg => by have h1 := (HM.out.al.lt g hg).1; have h2 := HBA.out; omega
   haveI np1 : New wb px := ⟨by have := HPX2.out; have := X1.size; omega⟩
   haveI np2 : New w1 px := ⟨HPX2.out.2⟩
   haveI np3 : New w px := ⟨HPX2.out.1⟩
   clear hi1 hai hx hxl
   go_wp2_with fail
   apply waysM (wb := wb) (fun W g c n => MkI 107 66 3 base px (.slice (some ⟨b1, o1, none⟩) ps.length pc) ps.length (pcA t f bs r ps) (pcP t f bs r ps) i (i + 1) W (.slice (some ⟨g, 0, none⟩) (i + 1) c) qv L ∧ Later w W ∧ Later w1 W)
   ·intro key
    refine gO (S := (fun w' => Later wb w' ∧ Later w1 w' ∧ w'.cell? ⟨px, 0, none⟩ = some (.slice (some ⟨b1, o1, none⟩) ps.length pc))) (by kernel_rfl) (by first | exact ⟨inferInstance, inferInstance, hxs _ 0⟩ | exact ⟨inferInstance, inferInstance, HX9.out.cell 0⟩ | exact ⟨inferInstance, inferInstance, HX10.out.cell 0⟩) (fun _ _ _ _ _ h => h) (fun hHeld hZq => ?_)
    refine gT 0 rfl (by kernel_rfl) (by intro w' hSw; go_simp <;> rfl) hZq hHeld ?_; simp only [Act.put, sA, sZ, sS]
    refine gT 1 rfl (by kernel_rfl) (by intro w' hSw; go_simp <;> rfl) hZq hHeld ?_; simp only [Act.put, sA, sZ, sS]
    refine gT 2 rfl (by kernel_rfl) (by intro w' hSw; go_simp <;> rfl) hZq hHeld ?_; simp only [Act.put, sA, sZ, sS]
    refine gT 3 rfl (by kernel_rfl) (by intro w' hSw; go_simp <;> rfl) hZq hHeld ?_; simp only [Act.put, sA, sZ, sS]
    refine gT 5 rfl (by kernel_rfl) (by intro w' hSw; go_simp <;> rfl) hZq hHeld ?_; simp only [Act.put, sA, sZ, sS]
    refine gT 6 rfl (by kernel_rfl) (by intro w' hSw; go_simp <;> rfl) hZq hHeld ?_; simp only [Act.put, sA, sZ, sS]
    refine gT 7 rfl (by kernel_rfl) (by intro w' hSw; go_simp <;> rfl) hZq hHeld ?_; simp only [Act.put, sA, sZ, sS]
    refine gT 8 rfl (by kernel_rfl) (by intro w' hSw; go_simp <;> rfl) hZq hHeld ?_; simp only [Act.put, sA, sZ, sS]
    refine gT 9 rfl (by kernel_rfl) (by intro w' hSw; go_simp <;> rfl) hZq hHeld ?_; simp only [Act.put, sA, sZ, sS]
    refine gT 10 rfl (by kernel_rfl) (by intro w' hSw; go_simp <;> rfl) hZq hHeld ?_; simp only [Act.put, sA, sZ, sS]
    refine gT 11 rfl (by kernel_rfl) (by intro w' hSw; go_simp <;> rfl) hZq hHeld ?_; simp only [Act.put, sA, sZ, sS]
    refine gT 12 rfl (by kernel_rfl) (by intro w' hSw; go_simp <;> rfl) hZq hHeld ?_; simp only [Act.put, sA, sZ, sS]
    refine gT 13 rfl (by kernel_rfl) (by intro w' hSw; go_simp <;> rfl) hZq hHeld ?_; simp only [Act.put, sA, sZ, sS]
    refine gT 14 rfl (by kernel_rfl) (by intro w' hSw; go_simp <;> rfl) hZq hHeld ?_; simp only [Act.put, sA, sZ, sS]
    refine gT 15 rfl (by kernel_rfl) (by intro w' hSw; go_simp <;> rfl) hZq hHeld ?_; simp only [Act.put, sA, sZ, sS]
    refine wpAnyH_ready (rs := [4, 16]) (by kernel_rfl) (by simp) (AllReadyH.cons rfl (fun K hK => ?rx0_1_2_3_5_6_7_8_9_10_11_12_13_14_15_4) (AllReadyH.cons rfl (fun K hK => ?rx0_1_2_3_5_6_7_8_9_10_11_12_13_14_15_16) AllReadyH.nil))
    case' rx0_1_2_3_5_6_7_8_9_10_11_12_13_14_15_4 =>
     go_simp
     skip
     refine hK.out _ _ (by first | exact ⟨inferInstance, inferInstance, hxs _ 0⟩ | exact ⟨inferInstance, inferInstance, HX9.out.cell 0⟩ | exact ⟨inferInstance, inferInstance, HX10.out.cell 0⟩) (fun hHeld => ?_)
     try simp only [Act.put, sA, sZ, sS]
     refine gE 16 rfl (by kernel_rfl) (fun K hK => ?_)
     go_simp
     (first | (obtain ⟨w6, hw6⟩ : ∃ W : World, W = (wr.alloc (.cells #[.slice A1 n1 c1] 66)).drew := ⟨_, rfl⟩; rw [← hw6]) | (obtain ⟨w6, hw6⟩ : ∃ W : World, W = wr.drew.alloc (.cells #[.slice A1 n1 c1] 66) := ⟨_, rfl⟩; rw [← hw6])); have hB6 : Blk w6 wr.heap.size 66 #[.slice A1 n1 c1] := (by rw [hw6]; first | exact heap_new (by simp) | exact (heap_old (by simp)).trans (heap_new (by simp))); haveI Y6 : Later wr w6 := (by rw [hw6]; infer_instance); have X6 := Later.trans (w := wb) inferInstance Y6; have V6 := Later.trans (w := w1) inferInstance Y6; have HD1 := Lib.hid (duty_one hB6 (HI.out.later V6)); clear hw6 hB6
     refine hK.out _ _ (by first | exact ⟨inferInstance, inferInstance, hxs _ 0⟩ | exact ⟨inferInstance, inferInstance, HX9.out.cell 0⟩ | exact ⟨inferInstance, inferInstance, HX10.out.cell 0⟩) (fun hHeld => ?_)
     try simp only [Act.put, sA, sZ, sS]
     refine gT 17 rfl (by kernel_rfl) (by intro w' hSw; go_simp <;> rfl) hZq hHeld ?_; simp only [Act.put, sA, sZ, sS]
     refine gE 18 rfl (by kernel_rfl) (fun K hK => ?_)
     go_simp
     (go_at_call 89; (go_loud (refine (spec_l13Paid H.out (hwb0.trans inferInstance) H2.out (hwb2.trans inferInstance) H3.out (hwb3.trans inferInstance) r HOK.out HD1.out inferInstance HF1.out).mono ?_; rw [HAI.out]; rintro e w8 ⟨rfl, L8⟩; have Y8 := Later.trans (w := wr) inferInstance L8; have X8 := Later.trans (w := wb) inferInstance L8; have V8 := Later.trans (w := w1) inferInstance L8)))
     refine hK.out _ _ (by first | exact ⟨inferInstance, inferInstance, hxs _ 0⟩ | exact ⟨inferInstance, inferInstance, HX9.out.cell 0⟩ | exact ⟨inferInstance, inferInstance, HX10.out.cell 0⟩) (fun hHeld => ?_)
     try simp only [Act.put, sA, sZ, sS]
     refine gE 19 rfl (by kernel_rfl) (fun K hK => ?_)
     go_simp
     skip
     refine hK.out _ _ (by first | exact ⟨inferInstance, inferInstance, hxs _ 0⟩ | exact ⟨inferInstance, inferInstance, HX9.out.cell 0⟩ | exact ⟨inferInstance, inferInstance, HX10.out.cell 0⟩) (fun hHeld => ?_)
     try simp only [Act.put, sA, sZ, sS]
     refine gE 20 rfl (by kernel_rfl) (fun K hK => ?_)
     rw [if_pos (by rfl)]; change Oper.wp _ _ _ (World.alloc w8 _) _ _; refine wp_app_I _ _ 66 rfl Tryz.underlying66 infoInt (by decide) (w1 := wr) (v := av) (by rfl) HM.out.al inferInstance HM.out.sz (by show Value.slice (some ⟨w8.heap.size, 0, none⟩) 1 1 = _; simp) hiN ?_; intro v9 w9 hO9 hG9 hb9; obtain ⟨g9, c9, rfl⟩ := own_someD hO9 (Nat.succ_pos _); have HX9 := Lib.hid (grown_blk hG9 (HM.out.x.later Y8) HM.out.own_ne); have hx9 : ∀ W' [Later w9 W'] (j : Nat), W'.cell? ⟨px, j, none⟩ = (#[.slice (some ⟨b1, o1, none⟩) ps.length pc, av, qv, .int .i64 0, .slice none 0 0] : Array Value)[j]? := (fun W' hW' j => (HX9.out.later hW').cell j); have hf9 : ∀ (j : Nat) W' [Later w9 W'], W'.frozen? ⟨px, j, none⟩ = false := (fun j W' hW' => (HX9.out.later hW').frozen j); have HX10 := Lib.hid (HX9.out.set_ 1 (.slice (some ⟨g9, 0, none⟩) (i + 1) c9)); haveI X9 : Later wb w9 := X8.of_grown hG9 (fun g hg => (hoB.out g hg).1); haveI V9 : Later w1 w9 := V8.of_grown hG9 (fun g hg => (hoB.out g hg).2.1)
     refine hK.out _ _ (by first | exact ⟨inferInstance, inferInstance, hxs _ 0⟩ | exact ⟨inferInstance, inferInstance, HX9.out.cell 0⟩ | exact ⟨inferInstance, inferInstance, HX10.out.cell 0⟩) (fun hHeld => ?_)
     try simp only [Act.put, sA, sZ, sS]
     refine gT 21 rfl (by kernel_rfl) (by intro w' hSw; go_simp <;> rfl) hZq hHeld ?_; simp only [Act.put, sA, sZ, sS]
     refine gT 22 rfl (by kernel_rfl) (by intro w' hSw; go_simp <;> rfl) hZq hHeld ?_; simp only [Act.put, sA, sZ, sS]
     refine gE 23 rfl (by kernel_rfl) (fun K hK => ?_)
     go_simp
     skip
     refine hK.out _ _ (by first | exact ⟨inferInstance, inferInstance, hxs _ 0⟩ | exact ⟨inferInstance, inferInstance, HX9.out.cell 0⟩ | exact ⟨inferInstance, inferInstance, HX10.out.cell 0⟩) (fun hHeld => ?_)
     try simp only [Act.put, sA, sZ, sS]
     refine wpAnyH_done (by kernel_rfl) ?_ _
    case' rx0_1_2_3_5_6_7_8_9_10_11_12_13_14_15_16 =>
     go_simp
     (first | (obtain ⟨w6, hw6⟩ : ∃ W : World, W = (wr.alloc (.cells #[.slice A1 n1 c1] 66)).drew := ⟨_, rfl⟩; rw [← hw6]) | (obtain ⟨w6, hw6⟩ : ∃ W : World, W = wr.drew.alloc (.cells #[.slice A1 n1 c1] 66) := ⟨_, rfl⟩; rw [← hw6])); have hB6 : Blk w6 wr.heap.size 66 #[.slice A1 n1 c1] := (by rw [hw6]; first | exact heap_new (by simp) | exact (heap_old (by simp)).trans (heap_new (by simp))); haveI Y6 : Later wr w6 := (by rw [hw6]; infer_instance); have X6 := Later.trans (w := wb) inferInstance Y6; have V6 := Later.trans (w := w1) inferInstance Y6; have HD1 := Lib.hid (duty_one hB6 (HI.out.later V6)); clear hw6 hB6
     refine hK.out _ _ (by first | exact ⟨inferInstance, inferInstance, hxs _ 0⟩ | exact ⟨inferInstance, inferInstance, HX9.out.cell 0⟩ | exact ⟨inferInstance, inferInstance, HX10.out.cell 0⟩) (fun hHeld => ?_)
     try simp only [Act.put, sA, sZ, sS]
     refine gT 17 rfl (by kernel_rfl) (by intro w' hSw; go_simp <;> rfl) hZq hHeld ?_; simp only [Act.put, sA, sZ, sS]
     refine wpAnyH_ready (rs := [4, 18]) (by kernel_rfl) (by simp) (AllReadyH.cons rfl (fun K hK => ?rx0_1_2_3_5_6_7_8_9_10_11_12_13_14_15_16_17_4) (AllReadyH.cons rfl (fun K hK => ?rx0_1_2_3_5_6_7_8_9_10_11_12_13_14_15_16_17_18) AllReadyH.nil))
     case' rx0_1_2_3_5_6_7_8_9_10_11_12_13_14_15_16_17_4 =>
      go_simp
      skip
      refine hK.out _ _ (by first | exact ⟨inferInstance, inferInstance, hxs _ 0⟩ | exact ⟨inferInstance, inferInstance, HX9.out.cell 0⟩ | exact ⟨inferInstance, inferInstance, HX10.out.cell 0⟩) (fun hHeld => ?_)
      try simp only [Act.put, sA, sZ, sS]
      refine gE 18 rfl (by kernel_rfl) (fun K hK => ?_)
      go_simp
      (go_at_call 89; (go_loud (refine (spec_l13Paid H.out (hwb0.trans inferInstance) H2.out (hwb2.trans inferInstance) H3.out (hwb3.trans inferInstance) r HOK.out HD1.out inferInstance HF1.out).mono ?_; rw [HAI.out]; rintro e w8 ⟨rfl, L8⟩; have Y8 := Later.trans (w := wr) inferInstance L8; have X8 := Later.trans (w := wb) inferInstance L8; have V8 := Later.trans (w := w1) inferInstance L8)))
      refine hK.out _ _ (by first | exact ⟨inferInstance, inferInstance, hxs _ 0⟩ | exact ⟨inferInstance, inferInstance, HX9.out.cell 0⟩ | exact ⟨inferInstance, inferInstance, HX10.out.cell 0⟩) (fun hHeld => ?_)
      try simp only [Act.put, sA, sZ, sS]
      refine gE 19 rfl (by kernel_rfl) (fun K hK => ?_)
      go_simp
      skip
      refine hK.out _ _ (by first | exact ⟨inferInstance, inferInstance, hxs _ 0⟩ | exact ⟨inferInstance, inferInstance, HX9.out.cell 0⟩ | exact ⟨inferInstance, inferInstance, HX10.out.cell 0⟩) (fun hHeld => ?_)
      try simp only [Act.put, sA, sZ, sS]
      refine gE 20 rfl (by kernel_rfl) (fun K hK => ?_)
      rw [if_pos (by rfl)]; change Oper.wp _ _ _ (World.alloc w8 _) _ _; refine wp_app_I _ _ 66 rfl Tryz.underlying66 infoInt (by decide) (w1 := wr) (v := av) (by rfl) HM.out.al inferInstance HM.out.sz (by show Value.slice (some ⟨w8.heap.size, 0, none⟩) 1 1 = _; simp) hiN ?_; intro v9 w9 hO9 hG9 hb9; obtain ⟨g9, c9, rfl⟩ := own_someD hO9 (Nat.succ_pos _); have HX9 := Lib.hid (grown_blk hG9 (HM.out.x.later Y8) HM.out.own_ne); have hx9 : ∀ W' [Later w9 W'] (j : Nat), W'.cell? ⟨px, j, none⟩ = (#[.slice (some ⟨b1, o1, none⟩) ps.length pc, av, qv, .int .i64 0, .slice none 0 0] : Array Value)[j]? := (fun W' hW' j => (HX9.out.later hW').cell j); have hf9 : ∀ (j : Nat) W' [Later w9 W'], W'.frozen? ⟨px, j, none⟩ = false := (fun j W' hW' => (HX9.out.later hW').frozen j); have HX10 := Lib.hid (HX9.out.set_ 1 (.slice (some ⟨g9, 0, none⟩) (i + 1) c9)); haveI X9 : Later wb w9 := X8.of_grown hG9 (fun g hg => (hoB.out g hg).1); haveI V9 : Later w1 w9 := V8.of_grown hG9 (fun g hg => (hoB.out g hg).2.1)
      refine hK.out _ _ (by first | exact ⟨inferInstance, inferInstance, hxs _ 0⟩ | exact ⟨inferInstance, inferInstance, HX9.out.cell 0⟩ | exact ⟨inferInstance, inferInstance, HX10.out.cell 0⟩) (fun hHeld => ?_)
      try simp only [Act.put, sA, sZ, sS]
      refine gT 21 rfl (by kernel_rfl) (by intro w' hSw; go_simp <;> rfl) hZq hHeld ?_; simp only [Act.put, sA, sZ, sS]
      refine gT 22 rfl (by kernel_rfl) (by intro w' hSw; go_simp <;> rfl) hZq hHeld ?_; simp only [Act.put, sA, sZ, sS]
      refine gE 23 rfl (by kernel_rfl) (fun K hK => ?_)
      go_simp
      skip
      refine hK.out _ _ (by first | exact ⟨inferInstance, inferInstance, hxs _ 0⟩ | exact ⟨inferInstance, inferInstance, HX9.out.cell 0⟩ | exact ⟨inferInstance, inferInstance, HX10.out.cell 0⟩) (fun hHeld => ?_)
      try simp only [Act.put, sA, sZ, sS]
      refine wpAnyH_done (by kernel_rfl) ?_ _
     case' rx0_1_2_3_5_6_7_8_9_10_11_12_13_14_15_16_17_18 =>
      go_simp
      (go_at_call 89; (go_loud (refine (spec_l13Paid H.out (hwb0.trans inferInstance) H2.out (hwb2.trans inferInstance) H3.out (hwb3.trans inferInstance) r HOK.out HD1.out inferInstance HF1.out).mono ?_; rw [HAI.out]; rintro e w8 ⟨rfl, L8⟩; have Y8 := Later.trans (w := wr) inferInstance L8; have X8 := Later.trans (w := wb) inferInstance L8; have V8 := Later.trans (w := w1) inferInstance L8)))
      refine hK.out _ _ (by first | exact ⟨inferInstance, inferInstance, hxs _ 0⟩ | exact ⟨inferInstance, inferInstance, HX9.out.cell 0⟩ | exact ⟨inferInstance, inferInstance, HX10.out.cell 0⟩) (fun hHeld => ?_)
      try simp only [Act.put, sA, sZ, sS]
      refine wpAnyH_ready (rs := [4, 19]) (by kernel_rfl) (by simp) (AllReadyH.cons rfl (fun K hK => ?rx0_1_2_3_5_6_7_8_9_10_11_12_13_14_15_16_17_18_4) (AllReadyH.cons rfl (fun K hK => ?rx0_1_2_3_5_6_7_8_9_10_11_12_13_14_15_16_17_18_19) AllReadyH.nil))
      case' rx0_1_2_3_5_6_7_8_9_10_11_12_13_14_15_16_17_18_4 =>
       go_simp
       skip
       refine hK.out _ _ (by first | exact ⟨inferInstance, inferInstance, hxs _ 0⟩ | exact ⟨inferInstance, inferInstance, HX9.out.cell 0⟩ | exact ⟨inferInstance, inferInstance, HX10.out.cell 0⟩) (fun hHeld => ?_)
       try simp only [Act.put, sA, sZ, sS]
       refine gE 19 rfl (by kernel_rfl) (fun K hK => ?_)
       go_simp
       skip
       refine hK.out _ _ (by first | exact ⟨inferInstance, inferInstance, hxs _ 0⟩ | exact ⟨inferInstance, inferInstance, HX9.out.cell 0⟩ | exact ⟨inferInstance, inferInstance, HX10.out.cell 0⟩) (fun hHeld => ?_)
       try simp only [Act.put, sA, sZ, sS]
       refine gE 20 rfl (by kernel_rfl) (fun K hK => ?_)
       rw [if_pos (by rfl)]; change Oper.wp _ _ _ (World.alloc w8 _) _ _; refine wp_app_I _ _ 66 rfl Tryz.underlying66 infoInt (by decide) (w1 := wr) (v := av) (by rfl) HM.out.al inferInstance HM.out.sz (by show Value.slice (some ⟨w8.heap.size, 0, none⟩) 1 1 = _; simp) hiN ?_; intro v9 w9 hO9 hG9 hb9; obtain ⟨g9, c9, rfl⟩ := own_someD hO9 (Nat.succ_pos _); have HX9 := Lib.hid (grown_blk hG9 (HM.out.x.later Y8) HM.out.own_ne); have hx9 : ∀ W' [Later w9 W'] (j : Nat), W'.cell? ⟨px, j, none⟩ = (#[.slice (some ⟨b1, o1, none⟩) ps.length pc, av, qv, .int .i64 0, .slice none 0 0] : Array Value)[j]? := (fun W' hW' j => (HX9.out.later hW').cell j); have hf9 : ∀ (j : Nat) W' [Later w9 W'], W'.frozen? ⟨px, j, none⟩ = false := (fun j W' hW' => (HX9.out.later hW').frozen j); have HX10 := Lib.hid (HX9.out.set_ 1 (.slice (some ⟨g9, 0, none⟩) (i + 1) c9)); haveI X9 : Later wb w9 := X8.of_grown hG9 (fun g hg => (hoB.out g hg).1); haveI V9 : Later w1 w9 := V8.of_grown hG9 (fun g hg => (hoB.out g hg).2.1)
       refine hK.out _ _ (by first | exact ⟨inferInstance, inferInstance, hxs _ 0⟩ | exact ⟨inferInstance, inferInstance, HX9.out.cell 0⟩ | exact ⟨inferInstance, inferInstance, HX10.out.cell 0⟩) (fun hHeld => ?_)
       try simp only [Act.put, sA, sZ, sS]
       refine gT 21 rfl (by kernel_rfl) (by intro w' hSw; go_simp <;> rfl) hZq hHeld ?_; simp only [Act.put, sA, sZ, sS]
       refine gT 22 rfl (by kernel_rfl) (by intro w' hSw; go_simp <;> rfl) hZq hHeld ?_; simp only [Act.put, sA, sZ, sS]
       refine gE 23 rfl (by kernel_rfl) (fun K hK => ?_)
       go_simp
       skip
       refine hK.out _ _ (by first | exact ⟨inferInstance, inferInstance, hxs _ 0⟩ | exact ⟨inferInstance, inferInstance, HX9.out.cell 0⟩ | exact ⟨inferInstance, inferInstance, HX10.out.cell 0⟩) (fun hHeld => ?_)
       try simp only [Act.put, sA, sZ, sS]
       refine wpAnyH_done (by kernel_rfl) ?_ _
      case' rx0_1_2_3_5_6_7_8_9_10_11_12_13_14_15_16_17_18_19 =>
       go_simp
       skip
       refine hK.out _ _ (by first | exact ⟨inferInstance, inferInstance, hxs _ 0⟩ | exact ⟨inferInstance, inferInstance, HX9.out.cell 0⟩ | exact ⟨inferInstance, inferInstance, HX10.out.cell 0⟩) (fun hHeld => ?_)
       try simp only [Act.put, sA, sZ, sS]
       refine gE 4 rfl (by kernel_rfl) (fun K hK => ?_)
       go_simp
       skip
       refine hK.out _ _ (by first | exact ⟨inferInstance, inferInstance, hxs _ 0⟩ | exact ⟨inferInstance, inferInstance, HX9.out.cell 0⟩ | exact ⟨inferInstance, inferInstance, HX10.out.cell 0⟩) (fun hHeld => ?_)
       try simp only [Act.put, sA, sZ, sS]
       refine gE 20 rfl (by kernel_rfl) (fun K hK => ?_)
       rw [if_pos (by rfl)]; change Oper.wp _ _ _ (World.alloc w8 _) _ _; refine wp_app_I _ _ 66 rfl Tryz.underlying66 infoInt (by decide) (w1 := wr) (v := av) (by rfl) HM.out.al inferInstance HM.out.sz (by show Value.slice (some ⟨w8.heap.size, 0, none⟩) 1 1 = _; simp) hiN ?_; intro v9 w9 hO9 hG9 hb9; obtain ⟨g9, c9, rfl⟩ := own_someD hO9 (Nat.succ_pos _); have HX9 := Lib.hid (grown_blk hG9 (HM.out.x.later Y8) HM.out.own_ne); have hx9 : ∀ W' [Later w9 W'] (j : Nat), W'.cell? ⟨px, j, none⟩ = (#[.slice (some ⟨b1, o1, none⟩) ps.length pc, av, qv, .int .i64 0, .slice none 0 0] : Array Value)[j]? := (fun W' hW' j => (HX9.out.later hW').cell j); have hf9 : ∀ (j : Nat) W' [Later w9 W'], W'.frozen? ⟨px, j, none⟩ = false := (fun j W' hW' => (HX9.out.later hW').frozen j); have HX10 := Lib.hid (HX9.out.set_ 1 (.slice (some ⟨g9, 0, none⟩) (i + 1) c9)); haveI X9 : Later wb w9 := X8.of_grown hG9 (fun g hg => (hoB.out g hg).1); haveI V9 : Later w1 w9 := V8.of_grown hG9 (fun g hg => (hoB.out g hg).2.1)
       refine hK.out _ _ (by first | exact ⟨inferInstance, inferInstance, hxs _ 0⟩ | exact ⟨inferInstance, inferInstance, HX9.out.cell 0⟩ | exact ⟨inferInstance, inferInstance, HX10.out.cell 0⟩) (fun hHeld => ?_)
       try simp only [Act.put, sA, sZ, sS]
       refine gT 21 rfl (by kernel_rfl) (by intro w' hSw; go_simp <;> rfl) hZq hHeld ?_; simp only [Act.put, sA, sZ, sS]
       refine gT 22 rfl (by kernel_rfl) (by intro w' hSw; go_simp <;> rfl) hZq hHeld ?_; simp only [Act.put, sA, sZ, sS]
       refine gE 23 rfl (by kernel_rfl) (fun K hK => ?_)
       go_simp
       skip
       refine hK.out _ _ (by first | exact ⟨inferInstance, inferInstance, hxs _ 0⟩ | exact ⟨inferInstance, inferInstance, HX9.out.cell 0⟩ | exact ⟨inferInstance, inferInstance, HX10.out.cell 0⟩) (fun hHeld => ?_)
       try simp only [Act.put, sA, sZ, sS]
       refine wpAnyH_done (by kernel_rfl) ?_ _
    all_goals
     have HMA := HM.out.alone Y8 hG9 (by rw [HPA.out]; exact hO9) hb9
     have hwA : Later w w9 := (Y2.trans Y8).of_grown hG9 (fun g hg => (hoB.out g hg).2.2)
     obtain ⟨W10, hW10⟩ : ∃ W10 : World, W10 = w9.setCell ⟨px, 1, none⟩ (.slice (some ⟨g9, 0, none⟩) (i + 1) c9) := ⟨_, rfl⟩
     have hL1 : Later wb W10 := by rw [hW10]; infer_instance
     have hL2 : Later w W10 := by rw [hW10]; infer_instance
     have hL3 : Later w1 W10 := by rw [hW10]; infer_instance
     rw [← hW10] at HMA ⊢
     obtain ⟨n8, hn8⟩ : ∃ n8, n8 = w8.heap.size := ⟨_, rfl⟩
     rw [← hn8]
     exact key W10 g9 c9 n8 hL1 ⟨HMA, hL2, hL3⟩
   intro W5 g5 c5 n5 X5 ⟨hM5, Z5', V5⟩
   haveI := X5
   have HM5 := Lib.hid hM5
   have HLL : Hid (L.length = i) := Lib.hid (by have h9 := congrArg List.length HM.out.l; simpa using h9)
   have hx5 : ∀ W' [Later W5 W'] (j : Nat), W'.cell? ⟨px, j, none⟩ = (#[.slice (some ⟨b1, o1, none⟩) ps.length pc, .slice (some ⟨g5, 0, none⟩) (i + 1) c5, qv, .int .i64 0, .slice none 0 0] : Array Value)[j]? := fun W' hW' j => (HM5.out.x.later hW').cell j
   obtain ⟨pr, hpr⟩ : ∃ p, p = pcP t f bs r ps i := ⟨_, rfl⟩
   have HPRW := Lib.hid hpr
   clear hM5 hxs HM hoB hpr
   go_wp2
   go_loopw [13, 14] (fun rv kv ws => ∃ k : Nat, k ≤ ps.length ∧ kv = .int .i64 (k : Int) ∧ Hid (ws.ownsRow W5.heap.size 3 1 rv k ((aL k pr).map (Value.int .i64))) ∧ Later W5 ws) (fun _ kv _ => ps.length - (intOf kv).toNat)
   case atStart => exact ⟨0, by omega, rfl, Lib.hid (own_lit0 (heap_new rfl) (Nat.le_refl _)), inferInstance⟩
   case round =>
    obtain ⟨k, hk, rfl, hR, hX6⟩ := hrel
    have Q1 : Later wb wr := X5.trans hX6
    have Q2 : Later w wr := Z5'.trans hX6
    have Q3 : Later w1 wr := V5.trans hX6
    by_cases hkl : k < ps.length
    ·obtain ⟨b2, o2, A2, n2, c2, y, hA2, hy, hc2, hi2⟩ := Sl.row_ HPR.out hkl
     cases hA2
     have HI2 := Lib.hid hi2
     have HPK2 := Lib.hid (pcK_of hy.out)
     have hp12 := HPC.out.p12
     have hxl : x.length ≤ 12 := by have h1 := pcK_len ps i; rw [HPK.out] at h1; omega
     have hyl : y.length ≤ 12 := by have h1 := pcK_len ps k; rw [HPK2.out] at h1; omega
     have HF2 : Hid (Fits (Duty.mk [x, y]).Pieces) := ⟨by simp; omega, by simp; omega⟩
     have hkil : (k : Int) < (ps.length : Int) := by omega
     have hkN : k ≤ 1073741824 := by omega
     clear hi2 hy hp12 hxl hyl
     by_cases hik : i = k
     ·subst hik
      have HPE : Hid (pr i = -1) := by show _ = _; rw [HPRW.out]; unfold pcP; rw [if_pos rfl]
      have hd1 : ((i : Int) == (i : Int)) = true := by simp
      go_wp2_with (at_builtin; refine wpList_app_B (w0 := W5) (base := W5.heap.size) rfl _ _ 66 rfl Tryz.underlying66 infoInt rfl (by decide) (by decide) rfl (by exact ownsRow_later hR.out (inferInstance : Later wr _)) (inferInstance : Later W5 _) (Nat.le_refl _) (Later.size (w := W5) inferInstance) rfl rfl (one_cell _ _) hkN ?_; intro v' w9 hown' hX9)
      go_roundw
      case rel => exact ⟨i + 1, by omega, by go_num, Lib.hid (by rw [aL_succ, HPE.out]; exact ownsRow_later hown' inferInstance), inferInstance⟩
      case measure => simp [intOf]; omega
     ·have hdi : ¬ (i : Int) = (k : Int) := by omega
      have hd1 := (beqi_f hdi).1
      have hd2 := (beqi_f hdi).2
      obtain ⟨ap, hap⟩ : ∃ a, paidOr t f bs r (Duty.mk [x, y]).Pieces = a := ⟨_, rfl⟩
      have HAP := Lib.hid hap
      have HPE : Hid (pr k = ap) := by show _ = _; rw [HPRW.out]; unfold pcP; rw [if_neg hik, HPK.out, HPK2.out]; exact hap
      clear hap
      iterate 120 (try (first | go_skip | go_guarded | go_step | go_upon))
      have hD2 := Lib.hid (duty_two (Blk.new wr 66 #[.slice A1 n1 c1, .slice A2 n2 c2]) (HI.out.later inferInstance) (HI2.out.later inferInstance))
      refine gO (S := (fun w' => Later wb w' ∧ Later w1 w' ∧ Later W5 w' ∧ Later wr w')) (by kernel_rfl) (by exact ⟨inferInstance, inferInstance, inferInstance, inferInstance⟩) (fun _ _ _ _ _ h => h) (fun hHeld hZq => ?_)
      refine gT 0 rfl (by kernel_rfl) (by intro w' hSw; go_simp <;> rfl) hZq hHeld ?_; simp only [Act.put, sA, sZ, sS]
      refine gT 1 rfl (by kernel_rfl) (by intro w' hSw; go_simp <;> rfl) hZq hHeld ?_; simp only [Act.put, sA, sZ, sS]
      refine gT 2 rfl (by kernel_rfl) (by intro w' hSw; go_simp <;> rfl) hZq hHeld ?_; simp only [Act.put, sA, sZ, sS]
      refine gT 3 rfl (by kernel_rfl) (by intro w' hSw; go_simp <;> rfl) hZq hHeld ?_; simp only [Act.put, sA, sZ, sS]
      refine gT 4 rfl (by kernel_rfl) (by intro w' hSw; go_simp <;> rfl) hZq hHeld ?_; simp only [Act.put, sA, sZ, sS]
      refine gT 5 rfl (by kernel_rfl) (by intro w' hSw; go_simp <;> rfl) hZq hHeld ?_; simp only [Act.put, sA, sZ, sS]
      refine gT 6 rfl (by kernel_rfl) (by intro w' hSw; go_simp <;> rfl) hZq hHeld ?_; simp only [Act.put, sA, sZ, sS]
      refine gT 7 rfl (by kernel_rfl) (by intro w' hSw; go_simp <;> rfl) hZq hHeld ?_; simp only [Act.put, sA, sZ, sS]
      refine gT 8 rfl (by kernel_rfl) (by intro w' hSw; go_simp <;> rfl) hZq hHeld ?_; simp only [Act.put, sA, sZ, sS]
      refine gT 9 rfl (by kernel_rfl) (by intro w' hSw; go_simp <;> rfl) hZq hHeld ?_; simp only [Act.put, sA, sZ, sS]
      refine gT 10 rfl (by kernel_rfl) (by intro w' hSw; go_simp <;> rfl) hZq hHeld ?_; simp only [Act.put, sA, sZ, sS]
      refine gT 11 rfl (by kernel_rfl) (by intro w' hSw; go_simp <;> rfl) hZq hHeld ?_; simp only [Act.put, sA, sZ, sS]
      refine gT 12 rfl (by kernel_rfl) (by intro w' hSw; go_simp <;> rfl) hZq hHeld ?_; simp only [Act.put, sA, sZ, sS]
      refine gT 13 rfl (by kernel_rfl) (by intro w' hSw; go_simp <;> rfl) hZq hHeld ?_; simp only [Act.put, sA, sZ, sS]
      refine gT 14 rfl (by kernel_rfl) (by intro w' hSw; go_simp <;> rfl) hZq hHeld ?_; simp only [Act.put, sA, sZ, sS]
      refine gT 15 rfl (by kernel_rfl) (by intro w' hSw; go_simp <;> rfl) hZq hHeld ?_; simp only [Act.put, sA, sZ, sS]
      refine gT 16 rfl (by kernel_rfl) (by intro w' hSw; go_simp <;> rfl) hZq hHeld ?_; simp only [Act.put, sA, sZ, sS]
      refine gT 17 rfl (by kernel_rfl) (by intro w' hSw; go_simp <;> rfl) hZq hHeld ?_; simp only [Act.put, sA, sZ, sS]
      refine gE 18 rfl (by kernel_rfl) (fun K hK => ?_)
      go_simp
      skip
      refine hK.out _ _ (by exact ⟨inferInstance, inferInstance, inferInstance, inferInstance⟩) (fun hHeld => ?_)
      try simp only [Act.put, sA, sZ, sS]
      refine gT 19 rfl (by kernel_rfl) (by intro w' hSw; go_simp <;> rfl) hZq hHeld ?_; simp only [Act.put, sA, sZ, sS]
      refine gE 20 rfl (by kernel_rfl) (fun K hK => ?_)
      go_simp
      (go_at_call 89; (go_loud (refine (spec_l13Paid H.out (hwb0.trans inferInstance) H2.out (hwb2.trans inferInstance) H3.out (hwb3.trans inferInstance) r HOK.out hD2.out (inferInstance : Later (wr.alloc (.cells #[.slice A1 n1 c1, .slice A2 n2 c2] 66)) _) HF2.out).mono ?_; rw [HAP.out]; rintro e w9 ⟨rfl, L9⟩; have Y9 := Later.trans (w := wr) inferInstance L9; have X9 := Later.trans (w := wb) inferInstance L9; have V9 := Later.trans (w := w1) inferInstance L9; have U9 := Later.trans (w := W5) inferInstance L9)))
      refine hK.out _ _ (by exact ⟨inferInstance, inferInstance, inferInstance, inferInstance⟩) (fun hHeld => ?_)
      try simp only [Act.put, sA, sZ, sS]
      refine gT 21 rfl (by kernel_rfl) (by intro w' hSw; go_simp <;> rfl) hZq hHeld ?_; simp only [Act.put, sA, sZ, sS]
      refine wpAnyH_done (by kernel_rfl) ?_ _
      have hR := Lib.hid (ownsRow_later hR.out Y9)
      go_wp2_with (at_builtin; refine wpList_app_B (w0 := W5) (base := W5.heap.size) rfl _ _ 66 rfl Tryz.underlying66 infoInt rfl (by decide) (by decide) rfl (by exact ownsRow_later hR.out (inferInstance : Later w9 _)) (inferInstance : Later W5 _) (Nat.le_refl _) (Later.size (w := W5) inferInstance) rfl rfl (one_cell _ _) hkN ?_; intro v' w10 hown' hX10)
      go_roundw
      case rel => exact ⟨k + 1, by omega, by go_num, Lib.hid (by rw [aL_succ, HPE.out]; exact ownsRow_later hown' inferInstance), inferInstance⟩
      case measure => simp [intOf]; omega
    ·have hkm : k = ps.length := by omega
     have hkil : ¬ (k : Int) < (ps.length : Int) := by omega
     subst hkm
     have PIN := Lib.hid (plan_in HOK.out hm8)
     obtain ⟨A7, c7, f7, rfl, ho7, nd7, hb7⟩ := OSl.ints_of_own hR.out (fun z hz => by
      obtain ⟨q, _, rfl⟩ := List.mem_map.1 hz
      have := PIN.out.p i q
      rw [← HPRW.out] at this
      unfold I64
      omega)
     have HMr := Lib.hid (HM5.out.later hX6)
     have HO7 := Lib.hid ho7
     have HND7 := Lib.hid nd7
     have HB7 := Lib.hid hb7
     have HDJ7 : Hid (∀ g, g ∈ f7 → g ∉ blksR L) := fun g hg hm => by have h1 := HB7.out g hg; have h2 := HM5.out.q.lt g hm; omega
     have HOV7 : Hid (∀ g, qv.ownBlock = some g → g ∉ f7) := fun g hg hm => by have h1 := HB7.out g hm; have h2 := (HM5.out.q.own.lt g hg).2; omega
     have hLn : L.length ≤ 1073741824 := by have := HLL.out; omega
     have hxr : ∀ W' [Later wr W'] (j : Nat), W'.cell? ⟨px, j, none⟩ = (#[.slice (some ⟨b1, o1, none⟩) ps.length pc, .slice (some ⟨g5, 0, none⟩) (i + 1) c5, qv, .int .i64 0, .slice none 0 0] : Array Value)[j]? := fun W' hW' j => (HMr.out.x.later hW').cell j
     have hoq : Hid (∀ g, qv.ownBlock = some g → wb.heap.size ≤ g ∧ w1.heap.size ≤ g ∧ w.heap.size ≤ g) := fun g hg => by have h1 := (HM5.out.q.own.lt g hg).1; have h2 := HBA.out; omega
     clear ho7 nd7 hb7 hR hx5
     go_wp2_with (at_builtin; go_loud (refine wpList_app_S rfl _ _ 29 rfl Tryz.underlying29 infoRow (by decide) (w1 := wr) (v := qv) (by rfl) HMr.out.q inferInstance HMr.out.sz HO7.out HND7.out HDJ7.out HOV7.out (by show Value.slice (some ⟨wr.heap.size, 0, none⟩) 1 1 = _; simp) hLn ?_; intro v9 w9 hQ9 hG9 hb9; obtain ⟨g9, c9, rfl⟩ := own_someD (own_eqD hQ9.own (show _ = i + 1 by rw [List.length_append, HLL.out]; rfl) rfl) (Nat.succ_pos _); have HX9 := Lib.hid (grown_blk hG9 HMr.out.x HMr.out.row_ne); have hx9 : ∀ W' [Later w9 W'] (j : Nat), W'.cell? ⟨px, j, none⟩ = (#[.slice (some ⟨b1, o1, none⟩) ps.length pc, .slice (some ⟨g5, 0, none⟩) (i + 1) c5, qv, .int .i64 0, .slice none 0 0] : Array Value)[j]? := (fun W' hW' j => (HX9.out.later hW').cell j); have hf9 : ∀ (j : Nat) W' [Later w9 W'], W'.frozen? ⟨px, j, none⟩ = false := (fun j W' hW' => (HX9.out.later hW').frozen j); have HMF := Lib.hid (HM5.out.row hX6 (x := (.slice A7 ps.length c7, aL ps.length pr, f7)) (by rw [← HPRW.out]) (fun g hg => HB7.out g hg) hG9 hQ9 hb9); haveI X9 : Later wb w9 := Q1.of_grown hG9 (fun g hg => (hoq.out g hg).1); haveI V9 : Later w1 w9 := Q3.of_grown hG9 (fun g hg => (hoq.out g hg).2.1); haveI U9 : Later w w9 := Q2.of_grown hG9 (fun g hg => (hoq.out g hg).2.2); clear hQ9 hG9 hb9))
     go_roundw
     case rel => exact ⟨i + 1, _, _, _, by omega, by go_num, Lib.hid (HMF.out.later inferInstance), inferInstance, inferInstance, inferInstance⟩
     case measure => simp [intOf]; omega
  ·have hii : ¬ (i : Int) < (ps.length : Int) := by omega
   have hie : i = ps.length := by omega
   subst hie
   have PIN := Lib.hid (plan_in HOK.out hm8)
   obtain ⟨aA, ac, fa, rfl, ha, _, hab⟩ := OSl.ints_of_own HM.out.al (fun x hx => by
    obtain ⟨k, _, rfl⟩ := List.mem_map.1 hx
    have := PIN.out.a k
    unfold I64
    omega)
   have hR := HM.out.q.rows HM.out.b
   rw [HM.out.l] at hR
   obtain ⟨qA, qc, fq, hqv, hq, _, hqb⟩ := hR.shut
   rw [List.length_map, List.length_range] at hqv hq
   subst hqv
   have HPB : Hid (PlanB 107 ps.length (pcA t f bs r ps) (pcP t f bs r ps) wr (.slice pA ps.length pc) aA ac qA qc px fa fq) := Lib.hid ⟨⟨_, _, HM.out.x⟩, ha, hq, fun hm => by have := hab px hm; have := HM.out.pb; omega, fun hm => by have := hqb px hm; have := HM.out.pb; omega⟩
   clear ha hq hR HM hii hab hqb
   go_wp2_with (go_at_call 90; go_loud (refine (plan_reset hm8 (HPB.out.later inferInstance) 0 0 rfl).mono ?_; rintro e w8 ⟨rfl, gk, hX8, hT8, hg8⟩; have HX8 := Lib.hid hX8; have HT8 := Lib.hid hT8; have HG8 := Lib.hid hg8; clear hX8 hT8 hg8))
   go_ret
   have hpf : px ∉ fp := fun hm => by have := HP1.out.lt px hm; have := HPX2.out.2; omega
   exact ⟨px, gk, pA, pc, aA, ac, qA, qc, fa, fq, fp, rfl, HX8.out.later inferInstance, (((HP1.out.later Y3).later inferInstance).touch HT8.out (fun g hg hm => hpf (by rw [List.mem_singleton.1 hm] at hg; exact hg))).later inferInstance, hpf, HPX2.out.1, Nat.le_trans Y2.size HG8.out, fun g hg => by have := HPF.out g hg; simp at this; omega, HPN.out, Later.trans (HT8.out.later Y2 (fun g hg => by rw [List.mem_singleton.1 hg]; exact HPX2.out.1)) inferInstance⟩
end Go.Proofs.YtknhebakebmlcaaGreat
