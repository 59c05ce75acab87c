/-
 FewestDuties: the reference's search for the best cut, and its list of duties (l13Best).
-/
import Derived.Test.YtknhebakebmlcaaGreatDpX
import Derived.Test.YtknhebakebmlcaaGreatDpK
namespace Go.Proofs.YtknhebakebmlcaaGreat
open Go Go.RowKit
set_option linter.unusedVariables false
set_option maxRecDepth 100000
set_option linter.unusedSimpArgs false
theorem enc_i64 {m : Nat} {BH : List (Option Nat)} {cs : List Int} (hE : EncB m BH cs) (hm : m ≤ 8) (hk : ∀ t k : Nat, BH[t]? = some (some k) → k < m) : ∀ v, v ∈ cs → I64 v := fun v hv => by
 obtain ⟨t, ht⟩ := List.getElem?_of_mem hv
 have htm : t < m := by rw [← hE.1]; exact (List.getElem?_eq_some_iff.1 ht).1
 have h2 := hE.2 t htm
 rw [ht] at h2
 have h3 := Option.some.inj h2
 unfold I64
 cases hb : BH[t]? with
 | none => rw [hb] at h3; simp only [encO] at h3; omega
 | some o =>
  cases o with
  | none => rw [hb] at h3; simp only [encO] at h3; omega
  | some k => rw [hb] at h3; have := hk t k hb; simp only [encO] at h3; omega
/-- The duties put so far. -/
structure OutI (ps : List (List Int)) (BH : List (Option Nat)) (te : TypeId) (base i : Nat) (W : World) (ov : Value) (L : List DutE) : Prop where
 d : DutS W base te ov L
 l : L.map (·.2.1) = sortK keyD (mixGo (pcK ps) (usedP 0 BH 0) 0 (BH.take i))
 p : ∀ y, y ∈ L → PosD y.2.1
 b : ∀ g, g ∈ blksD L → base ≤ g
 n : L.length ≤ i
theorem insK_map (L : List DutE) (x : DutE) : (insK keyE L x).map (·.2.1) = insK keyD (L.map (·.2.1)) x.2.1 := by
 unfold insK
 rw [List.length_map, posK_map (key := keyD) (fun z : DutE => z.2.1) L x, List.map_append, List.map_take, List.map_cons, List.map_drop]
 rfl
section
variable {ps : List (List Int)} {BH : List (Option Nat)} {te : TypeId} {base i : Nat} {W W' : World} {ov ov' : Value} {L : List DutE}
theorem OutI.start {g : Nat} (h : Blk W g te #[]) (hb : base ≤ g) : OutI ps BH te base 0 W (.slice (some ⟨g, 0, none⟩) 0 0) [] :=
 ⟨⟨own_lit0 h hb, by simp, by simp [blksD], by simp [blksD]⟩, by simp [mixGo, sortK], by simp, by simp [blksD], by simp⟩
theorem OutI.later (h : OutI ps BH te base i W ov L) (hl : Later W W') : OutI ps BH te base i W' ov L := ⟨h.d.later hl, h.l, h.p, h.b, h.n⟩
theorem OutI.skip_ (h : OutI ps BH te base i W ov L) (hb : BH[i]? = some none) (hu : (usedP 0 BH 0).testBit i = true) : OutI ps BH te base (i + 1) W ov L :=
 ⟨h.d, by rw [h.l, mixGo_take hb]; simp only [mixGo]; rw [if_pos hu]; simp [mixGo], h.p, h.b, Nat.le_succ_of_le h.n⟩
theorem OutI.put (h : OutI ps BH te base i W ov L) {o : Option Nat} (hb : BH[i]? = some o) {x : DutE} (hx : mixGo (pcK ps) (usedP 0 BH 0) i [o] = [x.2.1]) (hp : PosD x.2.1) (hxb : ∀ g, g ∈ x.2.2 → base ≤ g) {b2 : Nat} (hb2 : base ≤ b2) (hD : DutS W' b2 te ov' (insK keyE L x)) : OutI ps BH te base (i + 1) W' ov' (insK keyE L x) := by
 have hpm := insK_perm (key := keyE) L x
 refine ⟨⟨own_base hD.own hb2, hD.el, hD.nd, hD.far⟩, ?_, fun y hy => ?_, fun g hg => ?_, ?_⟩
 ·rw [insK_map, h.l, mixGo_take hb, hx, sortK_snoc]
 ·rcases List.mem_cons.1 (hpm.mem_iff.1 hy) with rfl | hy
  ·exact hp
  ·exact h.p y hy
 ·have h1 := (blksD_perm hpm).mem_iff.1 hg
  have hbx : blksD (x :: L) = x.2.2 ++ blksD L := by simp [blksD]
  rw [hbx] at h1
  rcases List.mem_append.1 h1 with h1 | h1
  ·exact hxb g h1
  ·exact h.b g h1
 ·rw [insK_len]; have := h.n; omega
end
set_option maxHeartbeats 8000000 in
theorem spec_l13Best {w0 w w2 w3 : World} {sA0 : Option Addr} {sn0 sc0 : Nat} {sA1 : Option Addr} {sn1 sc1 : Nat} {sA2 : Option Addr} {sn2 sc2 : Nat} {t : Timetable} (h : TimetableAt w0 sA0 sn0 sc0 sA1 sn1 sc1 sA2 sn2 sc2 t) (hl : Later w0 w) {qA0 : Option Addr} {qn0 qc0 : Nat} {f : Fleet} (h2 : FleetAt w2 qA0 qn0 qc0 f) (hl2 : Later w2 w) {bA : Option Addr} {bn bc : Nat} {bs : List (List Int)} (h3 : Sl 1 (rSl 1 rInt) w3 bA bn bc bs) (hl3 : Later w3 w) (r : Rules) (hok : okRuled t f bs r = true) (ht8 : t.Trips.length ≤ 8) : Calls Tryz.prog 39 #[.agg #[.slice sA0 sn0 sc0, .slice sA1 sn1 sc1, .slice sA2 sn2 sc2], .agg #[.slice qA0 qn0 qc0, .int .i64 f.Turn], .slice bA bn bc, .agg #[.int .i64 r.SignOn, .int .i64 r.SignOff, .int .i64 r.MaxDrive, .int .i64 r.MinBreak, .int .i64 r.PaidBreak, .int .i64 r.MaxLength]] w (RetD4 (fdOut t f bs r (cutBest t f bs r (2 ^ t.Trips.length))) w) := by
 have hT := h.l_Trips.later hl
 have HB0 : ∀ W [Later (((w.alloc (.cells #[.slice sA0 sn0 sc0, .slice sA1 sn1 sc1, .slice sA2 sn2 sc2] 44)).alloc (.cells #[.slice qA0 qn0 qc0, .int .i64 f.Turn] 46)).alloc (.cells #[.int .i64 r.SignOn, .int .i64 r.SignOff, .int .i64 r.MaxDrive, .int .i64 r.MinBreak, .int .i64 r.PaidBreak, .int .i64 r.MaxLength] 49)) W] (j : Nat), W.cell? ⟨w.heap.size, j, none⟩ = #[.slice sA0 sn0 sc0, .slice sA1 sn1 sc1, .slice sA2 sn2 sc2][j]? := Later.boxes (t := 44) (fr := (0, 0)) ((heap_old (by simp; try omega)).trans ((heap_old (by simp; try omega)).trans (heap_new (by simp; try omega)))); have HB1 : ∀ W [Later (((w.alloc (.cells #[.slice sA0 sn0 sc0, .slice sA1 sn1 sc1, .slice sA2 sn2 sc2] 44)).alloc (.cells #[.slice qA0 qn0 qc0, .int .i64 f.Turn] 46)).alloc (.cells #[.int .i64 r.SignOn, .int .i64 r.SignOff, .int .i64 r.MaxDrive, .int .i64 r.MinBreak, .int .i64 r.PaidBreak, .int .i64 r.MaxLength] 49)) W] (j : Nat), W.cell? ⟨w.heap.size + 1, j, none⟩ = #[.slice qA0 qn0 qc0, .int .i64 f.Turn][j]? := Later.boxes (t := 46) (fr := (0, 0)) ((heap_old (by simp; try omega)).trans (heap_new (by simp; try omega))); have HB2 : ∀ W [Later (((w.alloc (.cells #[.slice sA0 sn0 sc0, .slice sA1 sn1 sc1, .slice sA2 sn2 sc2] 44)).alloc (.cells #[.slice qA0 qn0 qc0, .int .i64 f.Turn] 46)).alloc (.cells #[.int .i64 r.SignOn, .int .i64 r.SignOff, .int .i64 r.MaxDrive, .int .i64 r.MinBreak, .int .i64 r.PaidBreak, .int .i64 r.MaxLength] 49)) W] (j : Nat), W.cell? ⟨w.heap.size + 1 + 1, j, none⟩ = #[.int .i64 r.SignOn, .int .i64 r.SignOff, .int .i64 r.MaxDrive, .int .i64 r.MinBreak, .int .i64 r.PaidBreak, .int .i64 r.MaxLength][j]? := Later.boxes (t := 49) (fr := (0, 0)) (heap_new (by simp; try omega)); obtain ⟨wb, hwb⟩ : ∃ wb : World, wb = (((w.alloc (.cells #[.slice sA0 sn0 sc0, .slice sA1 sn1 sc1, .slice sA2 sn2 sc2] 44)).alloc (.cells #[.slice qA0 qn0 qc0, .int .i64 f.Turn] 46)).alloc (.cells #[.int .i64 r.SignOn, .int .i64 r.SignOff, .int .i64 r.MaxDrive, .int .i64 r.MinBreak, .int .i64 r.PaidBreak, .int .i64 r.MaxLength] 49)) := ⟨_, rfl⟩; haveI hbW : Later wb (((w.alloc (.cells #[.slice sA0 sn0 sc0, .slice sA1 sn1 sc1, .slice sA2 sn2 sc2] 44)).alloc (.cells #[.slice qA0 qn0 qc0, .int .i64 f.Turn] 46)).alloc (.cells #[.int .i64 r.SignOn, .int .i64 r.SignOff, .int .i64 r.MaxDrive, .int .i64 r.MinBreak, .int .i64 r.PaidBreak, .int .i64 r.MaxLength] 49)) := (by rw [hwb]; exact Later.rfl_); haveI hww : Later w wb := (by rw [hwb]; infer_instance); rw [← hwb] at HB0; rw [← hwb] at HB1; rw [← hwb] at HB2; have hbE := Lib.hid (congrArg (fun x : World => x.heap.size) hwb); clear hwb
 have hwb0 := hl.trans hww
 have hwb2 := hl2.trans hww
 have hwb3 := hl3.trans hww
 have H := Lib.hid h
 have H2 := Lib.hid h2
 have H3 := Lib.hid h3
 clear h h2 h3
 have Htl := Lib.hid hT.len
 have hsl := hT.le
 clear hT hbE
 have HOK := Lib.hid hok
 have H8 := Lib.hid ht8
 have DF := Lib.hid (deadFacts (okRuled_blocks HOK.out))
 have H12 := Lib.hid (flat12 (okRuled_blocks HOK.out))
 have hs8 : sn2 ≤ 8 := by have := Htl.out; omega
 rw [show 2 ^ t.Trips.length = 2 ^ sn2 by rw [Htl.out]]
 have h256 := pow256 hs8
 have hum := u64w (a := sn2) (by omega)
 have humn := u64n (a := sn2) (by omega)
 obtain ⟨N, hN⟩ : ∃ N, N = 2 ^ sn2 := ⟨_, rfl⟩
 have hsN : IntKind.i64.wrap ((2 : Int) ^ sn2) = (N : Int) := by
  rw [show (2 : Int) ^ sn2 = (N : Int) by rw [hN]; simp, IntKind.wrap_i64]
  omega
 rw [← hN] at h256 ⊢
 clear hN hok ht8
 go_enter Tryz.func39, Tryz.ntmps39
 go_wp2_with fail
 go_loopw [12, 13, 14] (fun bv lv cv wr => ∃ (c : Nat) (b l : Int), c ≤ N ∧ cv = .int .i64 (c : Int) ∧ bv = .int .i64 b ∧ lv = .int .i64 l ∧ Hid (b = bestI (cutBest t f bs r c) ∧ l = lowI (cutBest t f bs r c)) ∧ Later wb wr) (fun _ _ cv _ => N - (intOf cv).toNat)
 case atStart => exact ⟨0, -1, 0, by omega, rfl, rfl, rfl, Lib.hid ⟨rfl, rfl⟩, inferInstance⟩
 case round =>
  obtain ⟨c, b, l, hcN, rfl, rfl, rfl, HBL, hX⟩ := hrel
  have hbd := cutBest_bd HOK.out H8.out c
  rw [← HBL.out.1, ← HBL.out.2] at hbd
  by_cases hlt : c < N
  ·have hci : (c : Int) < (N : Int) := by omega
   have hcw : IntKind.i64.wrap ((c : Int) + 1) = (c : Int) + 1 := by rw [IntKind.wrap_i64]; omega
   have HSTEP := Lib.hid (cutBest_ref HOK.out H8.out c)
   rw [← HBL.out.1, ← HBL.out.2] at HSTEP
   cases hoc : okCut t bs (c : Int) with
   | false =>
    have HOC := Lib.hid hoc
    have HNX : Hid (b = bestI (cutBest t f bs r (c + 1)) ∧ l = lowI (cutBest t f bs r (c + 1))) := by rw [HSTEP.out, if_neg (by rw [hoc]; simp)]; exact HBL
    clear hoc HSTEP HBL
    go_wp2_with (go_at_call 63; refine (spec_l13Cut H.out (hwb0.trans inferInstance) H3.out (hwb3.trans inferInstance) DF.out H8.out (c : Int)).mono ?_; rw [HOC.out]; rintro e w1 ⟨rfl, L1⟩; have X1 := Later.trans (w := wb) inferInstance L1; have Z1 := Later.trans (w := wr) inferInstance L1)
    go_roundw
    case rel => exact ⟨c + 1, b, l, by omega, by go_num, rfl, rfl, HNX, inferInstance⟩
    case measure => simp [intOf]; omega
   | true =>
    have HOC := Lib.hid hoc
    have PC := Lib.hid (pcsC HOK.out H8.out (c : Int))
    obtain ⟨ps, hps⟩ : ∃ ps, ps = cutAll t (c : Int) bs := ⟨_, rfl⟩
    have HPS := Lib.hid hps
    have PIN := Lib.hid (plan_in (ps := ps) HOK.out (by rw [hps]; exact PC.out.m8))
    obtain ⟨z, hz⟩ : ∃ z, z = valP (priceT t f bs r c) := ⟨_, rfl⟩
    have HMS : Hid (mS ps.length (pcA t f bs r ps) (pcP t f bs r ps) 0 0 = z) := by show _ = _; rw [mS_start PIN.out, hz, priceT_val, ← hps]
    have hzb := mS_bd PIN.out (F := 0) (D := 0) (Nat.two_pow_pos _)
    rw [HMS.out] at hzb
    rw [← hz, hoc] at HSTEP
    have HZ := Lib.hid hz
    clear hoc hps hz
    by_cases hz0 : z < 0
    ·have HNX : Hid (b = bestI (cutBest t f bs r (c + 1)) ∧ l = lowI (cutBest t f bs r (c + 1))) := by rw [HSTEP.out, if_neg fun k => by have := k.2.1; omega]; exact HBL
     have hz1 : ¬ 0 ≤ z := by omega
     have hz2 : decide (0 ≤ z) = false := decide_eq_false hz1
     clear HSTEP HBL
     go_wp2_with first
      | (go_at_call 63; refine (spec_l13Cut H.out (hwb0.trans inferInstance) H3.out (hwb3.trans inferInstance) DF.out H8.out (c : Int)).mono ?_; rw [HOC.out]; rintro e w1 ⟨rfl, L1⟩; have X1 := Later.trans (w := wb) inferInstance L1; have Z1 := Later.trans (w := wr) inferInstance L1)
      | (go_at_call 64; go_loud (refine (spec_l13Make H.out (hwb0.trans inferInstance) H2.out (hwb2.trans inferInstance) H3.out (hwb3.trans inferInstance) r HOK.out H8.out c).mono ?_; rw [← HPS.out]; rintro e w3 ⟨px, gk, pA, pc, aA, ac, qA, qc, fa, fq, fp, rfl, hP3, hO3, hpf, hpx, hgk, hfp, hnd, L3⟩; have X3 := Later.trans (w := wb) inferInstance L3; have HP3 := Lib.hid hP3; have HGK := Lib.hid hgk; clear hP3 hO3 hpf hpx hgk hfp hnd))
      | (go_at_call 65; go_loud (refine ((cost_all PIN.out (F := 0) (Nat.two_pow_pos _) (2 ^ ps.length)).1 w3 0 0 rfl (Nat.two_pow_pos _) (Nat.le_trans (Nat.sub_le _ _) (Nat.sub_le _ _)) HP3.out).mono ?_; rw [HMS.out]; rintro e w4 ⟨rfl, hX4, hT4⟩; have X4 : Later wb w4 := hT4.later X3 (fun g hg => by rw [List.mem_singleton.1 hg]; exact Nat.le_trans X1.size HGK.out); clear hX4 hT4))
     go_roundw
     case rel => exact ⟨c + 1, b, l, by omega, by go_num, rfl, rfl, HNX, inferInstance⟩
     case measure => simp [intOf]; omega
    have hz1 : 0 ≤ z := by omega
    have hz2 : decide (0 ≤ z) = true := decide_eq_true hz1
    by_cases hb0 : b < 0
    ·have HNX : Hid ((c : Int) = bestI (cutBest t f bs r (c + 1)) ∧ z = lowI (cutBest t f bs r (c + 1))) := by rw [HSTEP.out, if_pos ⟨rfl, hz1, .inl hb0⟩]; exact ⟨rfl, HZ.out⟩
     have hb1 : decide (b < 0) = true := decide_eq_true hb0
     clear HSTEP HBL
     go_wp2_with first
      | (go_at_call 63; refine (spec_l13Cut H.out (hwb0.trans inferInstance) H3.out (hwb3.trans inferInstance) DF.out H8.out (c : Int)).mono ?_; rw [HOC.out]; rintro e w1 ⟨rfl, L1⟩; have X1 := Later.trans (w := wb) inferInstance L1; have Z1 := Later.trans (w := wr) inferInstance L1)
      | (go_at_call 64; go_loud (refine (spec_l13Make H.out (hwb0.trans inferInstance) H2.out (hwb2.trans inferInstance) H3.out (hwb3.trans inferInstance) r HOK.out H8.out c).mono ?_; rw [← HPS.out]; rintro e w3 ⟨px, gk, pA, pc, aA, ac, qA, qc, fa, fq, fp, rfl, hP3, hO3, hpf, hpx, hgk, hfp, hnd, L3⟩; have X3 := Later.trans (w := wb) inferInstance L3; have HP3 := Lib.hid hP3; have HGK := Lib.hid hgk; clear hP3 hO3 hpf hpx hgk hfp hnd))
      | (go_at_call 65; go_loud (refine ((cost_all PIN.out (F := 0) (Nat.two_pow_pos _) (2 ^ ps.length)).1 w3 0 0 rfl (Nat.two_pow_pos _) (Nat.le_trans (Nat.sub_le _ _) (Nat.sub_le _ _)) HP3.out).mono ?_; rw [HMS.out]; rintro e w4 ⟨rfl, hX4, hT4⟩; have X4 : Later wb w4 := hT4.later X3 (fun g hg => by rw [List.mem_singleton.1 hg]; exact Nat.le_trans X1.size HGK.out); clear hX4 hT4))
     go_roundw
     case rel => exact ⟨c + 1, (c : Int), z, by omega, by go_num, rfl, rfl, HNX, inferInstance⟩
     case measure => simp [intOf]; omega
    have hb1 : decide (b < 0) = false := decide_eq_false hb0
    by_cases hzl : z < l
    ·have HNX : Hid ((c : Int) = bestI (cutBest t f bs r (c + 1)) ∧ z = lowI (cutBest t f bs r (c + 1))) := by rw [HSTEP.out, if_pos ⟨rfl, hz1, .inr hzl⟩]; exact ⟨rfl, HZ.out⟩
     have hzl1 : decide (z < l) = true := decide_eq_true hzl
     clear HSTEP HBL
     go_wp2_with first
      | (go_at_call 63; refine (spec_l13Cut H.out (hwb0.trans inferInstance) H3.out (hwb3.trans inferInstance) DF.out H8.out (c : Int)).mono ?_; rw [HOC.out]; rintro e w1 ⟨rfl, L1⟩; have X1 := Later.trans (w := wb) inferInstance L1; have Z1 := Later.trans (w := wr) inferInstance L1)
      | (go_at_call 64; go_loud (refine (spec_l13Make H.out (hwb0.trans inferInstance) H2.out (hwb2.trans inferInstance) H3.out (hwb3.trans inferInstance) r HOK.out H8.out c).mono ?_; rw [← HPS.out]; rintro e w3 ⟨px, gk, pA, pc, aA, ac, qA, qc, fa, fq, fp, rfl, hP3, hO3, hpf, hpx, hgk, hfp, hnd, L3⟩; have X3 := Later.trans (w := wb) inferInstance L3; have HP3 := Lib.hid hP3; have HGK := Lib.hid hgk; clear hP3 hO3 hpf hpx hgk hfp hnd))
      | (go_at_call 65; go_loud (refine ((cost_all PIN.out (F := 0) (Nat.two_pow_pos _) (2 ^ ps.length)).1 w3 0 0 rfl (Nat.two_pow_pos _) (Nat.le_trans (Nat.sub_le _ _) (Nat.sub_le _ _)) HP3.out).mono ?_; rw [HMS.out]; rintro e w4 ⟨rfl, hX4, hT4⟩; have X4 : Later wb w4 := hT4.later X3 (fun g hg => by rw [List.mem_singleton.1 hg]; exact Nat.le_trans X1.size HGK.out); clear hX4 hT4))
     go_roundw
     case rel => exact ⟨c + 1, (c : Int), z, by omega, by go_num, rfl, rfl, HNX, inferInstance⟩
     case measure => simp [intOf]; omega
    ·have HNX : Hid (b = bestI (cutBest t f bs r (c + 1)) ∧ l = lowI (cutBest t f bs r (c + 1))) := by rw [HSTEP.out, if_neg fun k => by have := k.2.2; omega]; exact HBL
     have hzl1 : decide (z < l) = false := decide_eq_false hzl
     clear HSTEP HBL
     go_wp2_with first
      | (go_at_call 63; refine (spec_l13Cut H.out (hwb0.trans inferInstance) H3.out (hwb3.trans inferInstance) DF.out H8.out (c : Int)).mono ?_; rw [HOC.out]; rintro e w1 ⟨rfl, L1⟩; have X1 := Later.trans (w := wb) inferInstance L1; have Z1 := Later.trans (w := wr) inferInstance L1)
      | (go_at_call 64; go_loud (refine (spec_l13Make H.out (hwb0.trans inferInstance) H2.out (hwb2.trans inferInstance) H3.out (hwb3.trans inferInstance) r HOK.out H8.out c).mono ?_; rw [← HPS.out]; rintro e w3 ⟨px, gk, pA, pc, aA, ac, qA, qc, fa, fq, fp, rfl, hP3, hO3, hpf, hpx, hgk, hfp, hnd, L3⟩; have X3 := Later.trans (w := wb) inferInstance L3; have HP3 := Lib.hid hP3; have HGK := Lib.hid hgk; clear hP3 hO3 hpf hpx hgk hfp hnd))
      | (go_at_call 65; go_loud (refine ((cost_all PIN.out (F := 0) (Nat.two_pow_pos _) (2 ^ ps.length)).1 w3 0 0 rfl (Nat.two_pow_pos _) (Nat.le_trans (Nat.sub_le _ _) (Nat.sub_le _ _)) HP3.out).mono ?_; rw [HMS.out]; rintro e w4 ⟨rfl, hX4, hT4⟩; have X4 : Later wb w4 := hT4.later X3 (fun g hg => by rw [List.mem_singleton.1 hg]; exact Nat.le_trans X1.size HGK.out); clear hX4 hT4))
     go_roundw
     case rel => exact ⟨c + 1, b, l, by omega, by go_num, rfl, rfl, HNX, inferInstance⟩
     case measure => simp [intOf]; omega
  ·have hci : ¬ (c : Int) < (N : Int) := by omega
   have hcN2 : c = N := by omega
   rw [hcN2] at HBL
   clear hcN2
   cases hbest : cutBest t f bs r N with
   | none =>
    have HBEST := Lib.hid hbest
    have hb : b = -1 := by rw [HBL.out.1, hbest]; rfl
    subst hb
    clear hbest HBL
    go_wp2
    (try simp only [Exit.inBlock, Exit.then])
    refine bodyPost_ret (v := .tuple #[.slice (some ⟨wr.heap.size, 0, none⟩) 0 0, .int .i64 (0), .int .i64 (0), .bool false]) (by simp [results, Tryz.results39, go_sem]) rfl ?_
    show RetD4 _ _ _ _
    rw [HBEST.out]
    exact ⟨_, _, _, [], rfl, OSl.nil_ _, by simp, by simp, hww.trans inferInstance⟩
   | some x0 =>
    obtain ⟨c0, p⟩ := x0
    have HBEST := Lib.hid hbest
    obtain ⟨hp1, hp2, hp3, hp4⟩ := cutBest_ok HOK.out H8.out N _ hbest
    simp only at hp1 hp2 hp4
    have hb : b = (c0 : Int) := by rw [HBL.out.1, hbest]; rfl
    have HLV : Hid (l = valP p) := by rw [HBL.out.2, hbest]; rfl
    subst hb
    have PC := Lib.hid (pcsC HOK.out H8.out (c0 : Int))
    have PRI := Lib.hid (priceT_in HOK.out H8.out c0)
    obtain ⟨ps, hps⟩ : ∃ ps, ps = cutAll t (c0 : Int) bs := ⟨_, rfl⟩
    have HPS := Lib.hid hps
    rw [← hps] at PC PRI
    rw [← hp1] at PRI
    have PIN := Lib.hid (plan_in (ps := ps) HOK.out PC.out.m8)
    have HV : Hid (0 ≤ valP (bI ps.length (pcA t f bs r ps) (pcP t f bs r ps) ps.length 0)) := by have h9 := hp2; rw [hp1, priceT_val, ← hps] at h9; exact h9
    obtain ⟨BH, hBH⟩ : ∃ BH, behGo ps.length (pcA t f bs r ps) (pcP t f bs r ps) ps.length 0 = BH := ⟨_, rfl⟩
    have HBH := Lib.hid hBH
    have HBE : Hid (bestD t f bs r ps = sortK keyD (mixGo (pcK ps) (usedP 0 BH 0) 0 BH)) := by show _ = _; unfold bestD behL; rw [hBH]
    have HBL2 : Hid (BH.length = ps.length) := by show _ = _; rw [← hBH]; exact behGo_len _ _
    have HBK : Hid (∀ t' k : Nat, BH[t']? = some (some k) → k < ps.length) := by rw [← hBH]; exact behGo_lt _ _
    have hc0i : ¬ (c0 : Int) < 0 := by omega
    have HP2 := Lib.hid hp2
    have hm8 := PC.out.m8
    obtain ⟨gz, hgz⟩ : ∃ gz, gz = wr.heap.size := ⟨_, rfl⟩
    have HGZ := Lib.hid hgz
    clear hbest HBL hp1 hp2 hp3 hp4 hps hBH hgz
    go_wp2_with first
     | (go_at_call 64; go_loud (refine (spec_l13Make H.out (hwb0.trans inferInstance) H2.out (hwb2.trans inferInstance) H3.out (hwb3.trans inferInstance) r HOK.out H8.out c0).mono ?_; rw [← HPS.out]; rintro e w3 ⟨px, gk, pA, pc, aA, ac, qA, qc, fa, fq, fp, rfl, hP3, hO3, hpf, hpx, hgk, hfp, hnd, L3⟩; have X3 := Later.trans (w := wb) inferInstance L3; have HP3 := Lib.hid hP3; have HO3 := Lib.hid hO3; have HPF := Lib.hid hpf; have HZ3 : Hid (Blk w3 wr.heap.size 76 #[]) := Lib.hid ((Blk.new wr _ _).later L3); have HPX : Hid (wr.heap.size < px) := Lib.hid (by have h9 := hpx; simp at h9; omega); clear hP3 hO3 hpf hpx hgk hfp hnd))
     | (go_at_call 66; go_loud (refine (spec_behind PIN.out HP3.out.base HV.out).mono ?_; rw [HBH.out]; rintro e w7 ⟨g, cs, rfl, hB7, hE7, hT7, hg7, hP7⟩; have X7 : Later wb w7 := hT7.later X3 (fun z hz => by rw [List.mem_singleton.1 hz]; have := HPX.out; have := hX.size; omega); have HB7 := Lib.hid hB7; have HE7 := Lib.hid hE7; have HP7 := Lib.hid hP7; have HPR : Hid (Sl 1 (rSl 1 rInt) w7 pA ps.length pc ps) := Lib.hid (HO3.out.touch hT7 (fun z hz hm => HPF.out (by rw [List.mem_singleton.1 hm] at hz; exact hz))).reads; have HZ7 := Lib.hid (hT7.blk HZ3.out (by have := HPX.out; simp; omega)); clear hB7 hE7 hT7 hg7 hP7))
    have HB0 : Hid (wb.heap.size ≤ wr.heap.size) := Lib.hid hX.size
    have HCI : Hid (Ints w7 (some ⟨g, 0, none⟩) ps.length ps.length cs) := Lib.hid (HB7.out.ints HE7.out.1.symm (by omega) (enc_i64 HE7.out hm8 HBK.out))
    obtain ⟨f0, kv, hx7⟩ := HP7.out.x
    have hxs : ∀ W' [Later w7 W'] (j : Nat), W'.cell? ⟨px, j, none⟩ = (#[.slice pA ps.length pc, .slice aA ps.length ac, .slice qA ps.length qc, .int .i64 f0, kv] : Array Value)[j]? := fun W' hW' j => (hx7.later hW').cell j
    have HST := Lib.hid (OutI.start (ps := ps) (BH := BH) HZ7.out HB0.out)
    clear hx7
    go_loopw [16, 19] (fun ov iv ws => ∃ (i g' cap : Nat) (L : List DutE), i ≤ ps.length ∧ iv = .int .i64 (i : Int) ∧ ov = .slice (some ⟨g', 0, none⟩) L.length cap ∧ Hid (OutI ps BH 76 wb.heap.size i ws (.slice (some ⟨g', 0, none⟩) L.length cap) L) ∧ Later w7 ws) (fun _ iv _ => ps.length - (intOf iv).toNat)
    case atStart => exact ⟨0, _, 0, [], by omega, rfl, rfl, HST, inferInstance⟩
    case round =>
     clear hX
     obtain ⟨i, g', cap, L, hi, rfl, rfl, HO, hX8⟩ := hrel
     have U1 : Later wb wr := X7.trans hX8
     have hiw : IntKind.i64.wrap ((i : Int) + 1) = (i : Int) + 1 := by rw [IntKind.wrap_i64]; omega
     by_cases hlt : i < ps.length
     ·have hil : (i : Int) < (ps.length : Int) := by omega
      have hmm : ¬ (ps.length : Int) < (ps.length : Int) := by omega
      obtain ⟨b1, o1, A1, n1, c1, x, rfl, hx, hc1, hi1⟩ := Sl.row_ HPR.out hlt
      have HI1 := Lib.hid hi1
      have HPK := Lib.hid (pcK_of hx.out)
      have hp12 := PC.out.p12
      have hxl : x.length ≤ 12 := by have h1 := pcK_len ps i; rw [HPK.out] at h1; omega
      have hn1 : n1 ≤ 1073741824 := by rw [hi1.len]; omega
      have hxp := PC.out.pos x (List.mem_of_getElem? hx.out)
      have HXP : Hid (0 < x.length) := Lib.hid (List.length_pos_iff.2 hxp)
      have hL100 : L.length ≤ 100 := by have := HO.out.n; omega
      obtain ⟨o, ho⟩ : ∃ o, BH[i]? = some o := ⟨_, List.getElem?_eq_getElem (by have := HBL2.out; omega)⟩
      have HOB := Lib.hid ho
      have hcs := HE7.out.2 i hlt
      rw [ho] at hcs
      cases o with
      | some k =>
       have hkm : k < ps.length := HBK.out i k ho
       have hco := HB7.out.rowAts (show cs[i]? = some (k : Int) from hcs)
       obtain ⟨b2, o2, A2, n2, c2, y, hA2, hy, hc2, hi2⟩ := Sl.row_ HPR.out hkm
       cases hA2
       have HI2 := Lib.hid hi2
       have HPK2 := Lib.hid (pcK_of hy.out)
       have hyl : y.length ≤ 12 := by have h1 := pcK_len ps k; rw [HPK2.out] at h1; omega
       have hn2 : n2 ≤ 1073741824 := by rw [hi2.len]; omega
       have hki : (k : Int) < (ps.length : Int) := by omega
       have HMX : Hid (mixGo (pcK ps) (usedP 0 BH 0) i [some k] = [[x, y]]) := by show _ = _; simp only [mixGo]; rw [HPK.out, HPK2.out]
       have HPD : Hid (PosD [x, y]) := Lib.hid ⟨by simp, by simpa using HXP.out⟩
       clear hi1 hi2 hx hy hcs ho hp12 hxl hyl hxp
       go_wp2_with fail
       refine gO (S := (fun w' => Later wb w' ∧ Later w7 w' ∧ Later wr w')) (by kernel_rfl) (by exact ⟨inferInstance, inferInstance, inferInstance⟩) (fun _ _ _ _ _ h => h) (fun hHeld hZq => ?_)
       refine gT 0 rfl (by kernel_rfl) (by intro w' hSw; go_simp <;> rfl) hZq hHeld ?_; simp only [Act.put, sA, sZ, sS]
       refine gT 1 rfl (by kernel_rfl) (by intro w' hSw; go_simp <;> rfl) hZq hHeld ?_; simp only [Act.put, sA, sZ, sS]
       refine gT 2 rfl (by kernel_rfl) (by intro w' hSw; go_simp <;> rfl) hZq hHeld ?_; simp only [Act.put, sA, sZ, sS]
       refine gT 3 rfl (by kernel_rfl) (by intro w' hSw; go_simp <;> rfl) hZq hHeld ?_; simp only [Act.put, sA, sZ, sS]
       refine gT 4 rfl (by kernel_rfl) (by intro w' hSw; go_simp <;> rfl) hZq hHeld ?_; simp only [Act.put, sA, sZ, sS]
       refine gT 5 rfl (by kernel_rfl) (by intro w' hSw; go_simp <;> rfl) hZq hHeld ?_; simp only [Act.put, sA, sZ, sS]
       refine gT 6 rfl (by kernel_rfl) (by intro w' hSw; go_simp <;> rfl) hZq hHeld ?_; simp only [Act.put, sA, sZ, sS]
       refine gT 7 rfl (by kernel_rfl) (by intro w' hSw; go_simp <;> rfl) hZq hHeld ?_; simp only [Act.put, sA, sZ, sS]
       refine gT 9 rfl (by kernel_rfl) (by intro w' hSw; go_simp <;> rfl) hZq hHeld ?_; simp only [Act.put, sA, sZ, sS]
       refine gT 10 rfl (by kernel_rfl) (by intro w' hSw; go_simp <;> rfl) hZq hHeld ?_; simp only [Act.put, sA, sZ, sS]
       refine gT 11 rfl (by kernel_rfl) (by intro w' hSw; go_simp <;> rfl) hZq hHeld ?_; simp only [Act.put, sA, sZ, sS]
       refine gT 12 rfl (by kernel_rfl) (by intro w' hSw; go_simp <;> rfl) hZq hHeld ?_; simp only [Act.put, sA, sZ, sS]
       refine gT 13 rfl (by kernel_rfl) (by intro w' hSw; go_simp <;> rfl) hZq hHeld ?_; simp only [Act.put, sA, sZ, sS]
       refine gT 14 rfl (by kernel_rfl) (by intro w' hSw; go_simp <;> rfl) hZq hHeld ?_; simp only [Act.put, sA, sZ, sS]
       refine gT 15 rfl (by kernel_rfl) (by intro w' hSw; go_simp <;> rfl) hZq hHeld ?_; simp only [Act.put, sA, sZ, sS]
       refine gT 16 rfl (by kernel_rfl) (by intro w' hSw; go_simp <;> rfl) hZq hHeld ?_; simp only [Act.put, sA, sZ, sS]
       refine gT 17 rfl (by kernel_rfl) (by intro w' hSw; go_simp <;> rfl) hZq hHeld ?_; simp only [Act.put, sA, sZ, sS]
       refine gT 18 rfl (by kernel_rfl) (by intro w' hSw; go_simp <;> rfl) hZq hHeld ?_; simp only [Act.put, sA, sZ, sS]
       refine gE 8 rfl (by kernel_rfl) (fun K hK => ?_)
       go_simp
       (go_at_call 68; (go_loud (refine (spec_l1Own HI1.out inferInstance hn1).mono ?_; rintro e w9 ⟨A9, n9, c9, f9, rfl, o9, nd9, lo9, L9⟩; have Z9 := Later.trans (w := wr) inferInstance L9; have V9 := Later.trans (w := w7) inferInstance L9; have X9 := Later.trans (w := wb) inferInstance L9; have HO9 := Lib.hid o9; have HN9 := Lib.hid nd9; have HL9 : Hid (∀ g, g ∈ f9 → wr.heap.size ≤ g) := Lib.hid (fun g hg => lo9 g hg); clear o9 nd9 lo9)))
       refine hK.out _ _ (by exact ⟨inferInstance, inferInstance, inferInstance⟩) (fun hHeld => ?_)
       try simp only [Act.put, sA, sZ, sS]
       refine gE 19 rfl (by kernel_rfl) (fun K hK => ?_)
       go_simp
       (go_at_call 68; (go_loud (refine (spec_l1Own HI2.out inferInstance hn2).mono ?_; rintro e w10 ⟨A10, n10, c10, f10, rfl, o10, nd10, lo10, L10⟩; have Z10 := Later.trans (w := wr) inferInstance L10; have V10 := Later.trans (w := w7) inferInstance L10; have X10 := Later.trans (w := wb) inferInstance L10; have Y10 : Later w9 w10 := L10; have HO10 := Lib.hid o10; have hlt9 := HO9.out.lt; have hlt10 := o10.lt; have hsz9 := L10.size; have HNN : Hid ((w10.heap.size :: (f9 ++ f10)).Nodup) := Lib.hid (List.nodup_cons.2 ⟨fun hm => by rcases List.mem_append.1 hm with hm | hm; have := hlt9 _ hm; omega; have := hlt10 _ hm; omega, List.nodup_append.2 ⟨HN9.out, nd10, fun a ha b hb e => by have h1 := hlt9 a ha; have h2 := lo10 b hb; omega⟩⟩); have hzr := Z9.size; have hLo : ∀ b, b ∈ w10.heap.size :: (f9 ++ f10) → wr.heap.size ≤ b := (fun b hb => by rcases List.mem_cons.1 hb with rfl | hb; omega; rcases List.mem_append.1 hb with hb | hb; exact HL9.out b hb; have := lo10 b hb; omega); have HDJ : Hid (∀ b, b ∈ w10.heap.size :: (f9 ++ f10) → b ∉ blksD L) := Lib.hid (fun b hb hm => by have h1 := HO.out.d.lt b hm; have h2 := hLo b hb; omega); have HBB : Hid (∀ b, b ∈ w10.heap.size :: (f9 ++ f10) → wb.heap.size ≤ b) := Lib.hid (fun b hb => Nat.le_trans U1.size (hLo b hb)); clear o10 nd10 lo10 hlt9 hlt10 hLo)))
       refine hK.out _ _ (by exact ⟨inferInstance, inferInstance, inferInstance⟩) (fun hHeld => ?_)
       try simp only [Act.put, sA, sZ, sS]
       refine gE 20 rfl (by kernel_rfl) (fun K hK => ?_)
       go_simp
       skip
       refine hK.out _ _ (by exact ⟨inferInstance, inferInstance, inferInstance⟩) (fun hHeld => ?_)
       try simp only [Act.put, sA, sZ, sS]
       refine gT 21 rfl (by kernel_rfl) (by intro w' hSw; go_simp <;> rfl) hZq hHeld ?_; simp only [Act.put, sA, sZ, sS]
       refine gE 22 rfl (by kernel_rfl) (fun K hK => ?_)
       go_simp
       (go_at_call 67; (go_loud (refine (spec_l13Put (x := ((.slice (some ⟨w10.heap.size, 0, none⟩) 2 2, [x, y], w10.heap.size :: (f9 ++ f10)) : DutE)) (HO.out.d.later inferInstance) rfl (duty_own2 (Blk.new w10 66 #[.slice A9 n9 c9, .slice A10 n10 c10]) (HO9.out.later inferInstance) (HO10.out.later inferInstance)) HNN.out HDJ.out HO.out.p HPD.out hL100).mono ?_; rintro e w11 ⟨ov, g11, cap11, rfl, rfl, hD11, L11⟩; have Z11 := Later.trans (w := wr) inferInstance L11; have V11 := Later.trans (w := w7) inferInstance L11; have X11 := Later.trans (w := wb) inferInstance L11; have HR11 := Lib.hid (HO.out.put HOB.out HMX.out HPD.out HBB.out (by have h2 := Z10.size; have h4 := U1.size; simp; omega) hD11); clear hD11)))
       refine hK.out _ _ (by exact ⟨inferInstance, inferInstance, inferInstance⟩) (fun hHeld => ?_)
       try simp only [Act.put, sA, sZ, sS]
       refine gT 23 rfl (by kernel_rfl) (by intro w' hSw; go_simp <;> rfl) hZq hHeld ?_; simp only [Act.put, sA, sZ, sS]
       refine wpAnyH_done (by kernel_rfl) ?_ _
       go_wp2
       go_roundw
       case rel => exact ⟨i + 1, g11, cap11, _, by omega, by go_num, rfl, Lib.hid (HR11.out.later inferInstance), inferInstance⟩
       case measure => simp [intOf]; omega
      | none =>
       have hco := HB7.out.rowAts (show cs[i]? = some (ps.length : Int) from hcs)
       by_cases hu : (usedP 0 BH 0).testBit i = true
       ·have HHS : Hid (decide ((i : Int) ∈ cs) = true) := Lib.hid (decide_eq_true ((enc_has HE7.out HBL2.out hlt ho).2 hu))
        have HSK := Lib.hid (HO.out.skip_ ho hu)
        clear hi1 hx hcs ho hp12 hxl hxp hu
        go_wp2_with (go_at_call 49; go_loud (refine (spec_l1Has HCI.out inferInstance (i : Int)).mono ?_; rw [HHS.out]; rintro e w8 ⟨rfl, L8⟩; have Z8 := Later.trans (w := wr) inferInstance L8; have V8 := Later.trans (w := w7) inferInstance L8; have X8 := Later.trans (w := wb) inferInstance L8))
        go_roundw
        case rel => exact ⟨i + 1, g', cap, L, by omega, by go_num, rfl, Lib.hid (HSK.out.later inferInstance), inferInstance⟩
        case measure => simp [intOf]; omega
       ·have HHS : Hid (decide ((i : Int) ∈ cs) = false) := Lib.hid (decide_eq_false fun h => hu ((enc_has HE7.out HBL2.out hlt ho).1 h))
        have HMX : Hid (mixGo (pcK ps) (usedP 0 BH 0) i [none] = [[x]]) := by show _ = _; simp only [mixGo]; rw [if_neg hu, HPK.out]
        have HPD : Hid (PosD [x]) := Lib.hid ⟨by simp, by simpa using HXP.out⟩
        clear hi1 hx hcs ho hp12 hxl hxp hu
        go_wp2_with first
         | (go_at_call 49; go_loud (refine (spec_l1Has HCI.out inferInstance (i : Int)).mono ?_; rw [HHS.out]; rintro e w8 ⟨rfl, L8⟩; have Z8 := Later.trans (w := wr) inferInstance L8; have V8 := Later.trans (w := w7) inferInstance L8; have X8 := Later.trans (w := wb) inferInstance L8))
         | (go_at_call 68; go_loud (refine (spec_l1Own HI1.out inferInstance hn1).mono ?_; rintro e w9 ⟨A9, n9, c9, f9, rfl, o9, nd9, lo9, L9⟩; have Z9 := Later.trans (w := wr) inferInstance L9; have V9 := Later.trans (w := w7) inferInstance L9; have X9 := Later.trans (w := wb) inferInstance L9; have HO9 := Lib.hid o9; have HN9 := Lib.hid nd9; have HL9 : Hid (∀ g, g ∈ f9 → wr.heap.size ≤ g) := Lib.hid (fun g hg => Nat.le_trans Z8.size (lo9 g hg)); clear o9 nd9 lo9))
         | (go_at_call 67; go_loud (refine (spec_l13Put (x := ((.slice (some ⟨w9.heap.size, 0, none⟩) 1 1, [x], w9.heap.size :: f9) : DutE)) (HO.out.d.later inferInstance) rfl (duty_own1 (Blk.new w9 66 #[.slice A9 n9 c9]) (HO9.out.later inferInstance)) (List.nodup_cons.2 ⟨fun hm => Nat.lt_irrefl _ (HO9.out.lt _ hm), HN9.out⟩) (fun b hb hm => by have h1 := HO.out.d.lt b hm; have h2 := Z9.size; rcases List.mem_cons.1 hb with rfl | hb; omega; have h3 := HL9.out b hb; omega) HO.out.p HPD.out hL100).mono ?_; rintro e w11 ⟨ov, g11, cap11, rfl, rfl, hD11, L11⟩; have Z11 := Later.trans (w := wr) inferInstance L11; have V11 := Later.trans (w := w7) inferInstance L11; have X11 := Later.trans (w := wb) inferInstance L11; have HR11 := Lib.hid (HO.out.put HOB.out HMX.out HPD.out (fun b hb => by have h2 := Z9.size; have h4 := U1.size; rcases List.mem_cons.1 hb with rfl | hb; omega; have h3 := HL9.out b hb; omega) (by have h2 := Z9.size; have h4 := U1.size; simp; omega) hD11); clear hD11))
        go_roundw
        case rel => exact ⟨i + 1, g11, cap11, _, by omega, by go_num, rfl, Lib.hid (HR11.out.later inferInstance), inferInstance⟩
        case measure => simp [intOf]; omega
     ·have hil : ¬ (i : Int) < (ps.length : Int) := by omega
      have him : i = ps.length := by omega
      subst him
      have HTM : Hid (l.tmod 100000 = p.2) := by show _ = _; rw [HLV.out, Int.tmod_eq_emod_of_nonneg HP2.out, val_mod PC.out.m8 PRI.out HP2.out]
      have HQ : Hid (L.map (fun x => Duty.mk x.2.1) = (bestD t f bs r ps).map Duty.mk) := by
       show _ = _
       rw [HBE.out]
       have h9 := HO.out.l
       rw [List.take_of_length_le (by rw [HBL2.out]; exact Nat.le_refl _)] at h9
       rw [← h9, List.map_map]
       rfl
      obtain ⟨A9, c9, fp9, e9, o9, nd9, lo9⟩ := HO.out.d.shut (lo := w.heap.size) (fun z hz => Nat.le_trans hww.size (HO.out.b z hz)) hww.size
      simp only [Value.slice.injEq] at e9
      obtain ⟨e91, _, e93⟩ := e9
      subst e91 e93
      rw [HQ.out] at o9
      have HO9 := Lib.hid o9
      have HN9 := Lib.hid nd9
      have HL9 := Lib.hid lo9
      clear o9 nd9 lo9
      go_wp2
      rw [HTM.out]
      (try simp only [Exit.inBlock, Exit.then])
      refine bodyPost_ret (v := .tuple #[.slice (some ⟨g', 0, none⟩) L.length cap, .int .i64 ((c0 : Int)), .int .i64 (p.2), .bool true]) (by simp [results, Tryz.results39, go_sem]) rfl ?_
      show RetD4 _ _ _ _
      rw [HBEST.out]
      refine ⟨_, _, _, fp9, rfl, ?_, HN9.out, HL9.out, hww.trans inferInstance⟩
      have h9 := HO9.out
      rw [HPS.out] at h9
      exact h9.later inferInstance
end Go.Proofs.YtknhebakebmlcaaGreat
