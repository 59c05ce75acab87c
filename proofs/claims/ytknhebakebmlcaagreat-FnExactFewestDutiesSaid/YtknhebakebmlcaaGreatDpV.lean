/-
 FewestDuties: the reference's price of one duty (l13Paid), a duty put in its place (l13Put).
-/
import Derived.Test.YtknhebakebmlcaaGreatDpE
import Derived.Test.YtknhebakebmlcaaGreatAppS
namespace Go.Proofs.YtknhebakebmlcaaGreat
open Go Go.RowKit
set_option linter.unusedVariables false
set_option maxRecDepth 100000
set_option linter.unusedSimpArgs false
set_option maxHeartbeats 1000000 in
theorem spec_l13Paid {w0 w w2 w3 : World} {sA0 : Option Addr} {sn0 sc0 : Nat} {sA1 : Option Addr} {sn1 sc1 : Nat} {sA2 : Option Addr} {sn2 sc2 : Nat} {t : Timetable} (h : TimetableAt w0 sA0 sn0 sc0 sA1 sn1 sc1 sA2 sn2 sc2 t) (hl : Later w0 w) {qA0 : Option Addr} {qn0 qc0 : Nat} {f : Fleet} (h2 : FleetAt w2 qA0 qn0 qc0 f) (hl2 : Later w2 w) {bA : Option Addr} {bn bc : Nat} {bs : List (List Int)} (h3 : Sl 1 (rSl 1 rInt) w3 bA bn bc bs) (hl3 : Later w3 w) (r : Rules) (hok : okRuled t f bs r = true) {eA0 : Option Addr} {en0 ec0 : Nat} {d : Duty} {w4 : World} (h4 : DutyAt w4 eA0 en0 ec0 d) (hl4 : Later w4 w) (hps : Fits d.Pieces) :
  Calls Tryz.prog 89 #[.agg #[.slice sA0 sn0 sc0, .slice sA1 sn1 sc1, .slice sA2 sn2 sc2], .agg #[.slice qA0 qn0 qc0, .int .i64 f.Turn], .slice bA bn bc, .agg #[.int .i64 r.SignOn, .int .i64 r.SignOff, .int .i64 r.MaxDrive, .int .i64 r.MinBreak, .int .i64 r.PaidBreak, .int .i64 r.MaxLength], .agg #[.slice eA0 en0 ec0]] w (Ret (.int .i64 (paidOr t f bs r d.Pieces)) w) := by
 have HB0 : ∀ W [Later ((((w.alloc (.cells #[.slice sA0 sn0 sc0, .slice sA1 sn1 sc1, .slice sA2 sn2 sc2] 44)).alloc (.cells #[.slice qA0 qn0 qc0, .int .i64 f.Turn] 46)).alloc (.cells #[.int .i64 r.SignOn, .int .i64 r.SignOff, .int .i64 r.MaxDrive, .int .i64 r.MinBreak, .int .i64 r.PaidBreak, .int .i64 r.MaxLength] 49)).alloc (.cells #[.slice eA0 en0 ec0] 76)) W] (j : Nat), W.cell? ⟨w.heap.size, j, none⟩ = #[.slice sA0 sn0 sc0, .slice sA1 sn1 sc1, .slice sA2 sn2 sc2][j]? := Later.boxes (t := 44) (fr := (0, 0)) ((heap_old (by simp; try omega)).trans ((heap_old (by simp; try omega)).trans ((heap_old (by simp; try omega)).trans (heap_new (by simp; try omega))))); have HB1 : ∀ W [Later ((((w.alloc (.cells #[.slice sA0 sn0 sc0, .slice sA1 sn1 sc1, .slice sA2 sn2 sc2] 44)).alloc (.cells #[.slice qA0 qn0 qc0, .int .i64 f.Turn] 46)).alloc (.cells #[.int .i64 r.SignOn, .int .i64 r.SignOff, .int .i64 r.MaxDrive, .int .i64 r.MinBreak, .int .i64 r.PaidBreak, .int .i64 r.MaxLength] 49)).alloc (.cells #[.slice eA0 en0 ec0] 76)) W] (j : Nat), W.cell? ⟨w.heap.size + 1, j, none⟩ = #[.slice qA0 qn0 qc0, .int .i64 f.Turn][j]? := Later.boxes (t := 46) (fr := (0, 0)) ((heap_old (by simp; try omega)).trans ((heap_old (by simp; try omega)).trans (heap_new (by simp; try omega)))); have HB2 : ∀ W [Later ((((w.alloc (.cells #[.slice sA0 sn0 sc0, .slice sA1 sn1 sc1, .slice sA2 sn2 sc2] 44)).alloc (.cells #[.slice qA0 qn0 qc0, .int .i64 f.Turn] 46)).alloc (.cells #[.int .i64 r.SignOn, .int .i64 r.SignOff, .int .i64 r.MaxDrive, .int .i64 r.MinBreak, .int .i64 r.PaidBreak, .int .i64 r.MaxLength] 49)).alloc (.cells #[.slice eA0 en0 ec0] 76)) W] (j : Nat), W.cell? ⟨w.heap.size + 1 + 1, j, none⟩ = #[.int .i64 r.SignOn, .int .i64 r.SignOff, .int .i64 r.MaxDrive, .int .i64 r.MinBreak, .int .i64 r.PaidBreak, .int .i64 r.MaxLength][j]? := Later.boxes (t := 49) (fr := (0, 0)) ((heap_old (by simp; try omega)).trans (heap_new (by simp; try omega))); have HB3 : ∀ W [Later ((((w.alloc (.cells #[.slice sA0 sn0 sc0, .slice sA1 sn1 sc1, .slice sA2 sn2 sc2] 44)).alloc (.cells #[.slice qA0 qn0 qc0, .int .i64 f.Turn] 46)).alloc (.cells #[.int .i64 r.SignOn, .int .i64 r.SignOff, .int .i64 r.MaxDrive, .int .i64 r.MinBreak, .int .i64 r.PaidBreak, .int .i64 r.MaxLength] 49)).alloc (.cells #[.slice eA0 en0 ec0] 76)) W] (j : Nat), W.cell? ⟨w.heap.size + 1 + 1 + 1, j, none⟩ = #[.slice eA0 en0 ec0][j]? := Later.boxes (t := 76) (fr := (0, 0)) (heap_new (by simp; try omega)); obtain ⟨wb, hwb⟩ : ∃ wb : World, wb = ((((w.alloc (.cells #[.slice sA0 sn0 sc0, .slice sA1 sn1 sc1, .slice sA2 sn2 sc2] 44)).alloc (.cells #[.slice qA0 qn0 qc0, .int .i64 f.Turn] 46)).alloc (.cells #[.int .i64 r.SignOn, .int .i64 r.SignOff, .int .i64 r.MaxDrive, .int .i64 r.MinBreak, .int .i64 r.PaidBreak, .int .i64 r.MaxLength] 49)).alloc (.cells #[.slice eA0 en0 ec0] 76)) := ⟨_, rfl⟩; haveI hbW : Later wb ((((w.alloc (.cells #[.slice sA0 sn0 sc0, .slice sA1 sn1 sc1, .slice sA2 sn2 sc2] 44)).alloc (.cells #[.slice qA0 qn0 qc0, .int .i64 f.Turn] 46)).alloc (.cells #[.int .i64 r.SignOn, .int .i64 r.SignOff, .int .i64 r.MaxDrive, .int .i64 r.MinBreak, .int .i64 r.PaidBreak, .int .i64 r.MaxLength] 49)).alloc (.cells #[.slice eA0 en0 ec0] 76)) := (by rw [hwb]; exact Later.rfl_); haveI hww : Later w wb := (by rw [hwb]; infer_instance); rw [← hwb] at HB0; rw [← hwb] at HB1; rw [← hwb] at HB2; rw [← hwb] at HB3; have hbE := Lib.hid (congrArg (fun x : World => x.heap.size) hwb); clear hwb
 have hwb0 := hl.trans hww
 have hwb2 := hl2.trans hww
 have hwb3 := hl3.trans hww
 have hwb4 := hl4.trans hww
 have H := Lib.hid h
 have H2 := Lib.hid h2
 have H3 := Lib.hid h3
 have H4 := Lib.hid h4
 have HPS := Lib.hid hps
 have HOK := Lib.hid (okRuled_blocks hok)
 have RR := Lib.hid (okRuled_rules hok)
 clear h h2 h3 h4 hps hbE
 by_cases c0 : brokenD t f bs r d.Pieces = 0
 ·have DF := Lib.hid (dutyFacts (t := t) (f := f) (bs := bs) (r := r) (ps := d.Pieces) (by unfold dutyOk; rw [hok, c0]; rfl))
  have C0 := Lib.hid c0
  rw [show paidOr t f bs r d.Pieces = paidD t f r d.Pieces from if_pos c0]
  clear c0 hok
  go_enter Tryz.func89, Tryz.ntmps89
  go_wp2_with first
   | (go_at_call 109; refine (spec_l12Broken H.out (hwb0.trans inferInstance) H2.out (hwb2.trans inferInstance) H3.out (hwb3.trans inferInstance) H4.out (hwb4.trans inferInstance) HOK.out RR.out HPS.out).mono ?_; rw [C0.out]; rintro e w1 ⟨rfl, L1⟩; have X1 := Later.trans (w := wb) inferInstance L1)
   | (go_at_call 110; refine (spec_l12Paid H.out (hwb0.trans inferInstance) H2.out (hwb2.trans inferInstance) r H4.out (hwb4.trans inferInstance) DF.out).mono ?_; rintro e w2 ⟨rfl, L2⟩; have X2 := Later.trans (w := wb) inferInstance L2)
  go_ret
  exact ⟨rfl, hww.trans inferInstance⟩
 ·obtain ⟨z, hz⟩ : ∃ z, brokenD t f bs r d.Pieces = z := ⟨_, rfl⟩
  have HZ := Lib.hid hz
  rw [show paidOr t f bs r d.Pieces = -1 from if_neg c0]
  rw [hz] at c0
  have c1 := (beqi_f c0).1
  clear hz hok
  go_enter Tryz.func89, Tryz.ntmps89
  go_wp2_with (go_at_call 109; refine (spec_l12Broken H.out (hwb0.trans inferInstance) H2.out (hwb2.trans inferInstance) H3.out (hwb3.trans inferInstance) H4.out (hwb4.trans inferInstance) HOK.out RR.out HPS.out).mono ?_; rw [HZ.out]; rintro e w1 ⟨rfl, L1⟩; have X1 := Later.trans (w := wb) inferInstance L1)
  go_ret
  exact ⟨rfl, hww.trans inferInstance⟩
/-- append(own, l...) in a drawn region, of values. -/
theorem wp_app_NV {P : Program} {o : Oper} {a : Act} {K : Act → World → Prop} {Q : Exit → Act → World → Prop} (s x : Operand) (t : TypeId)
  (ho : o.op = .call { callee := .builtin .append, args := #[s, x], argTypes := #[t, t] }) {e : TypeId} {z : Value} {bytes : Nat} (ht : P.underlying t = some (.slice e))
  (hi : (P.info? e).map (fun i => (i.zero, i.size, i.bytes)) = some (some z, 1, bytes)) (hz : z.cells.size = 1) (hby : bytes ≤ 4096)
  {w0 W : World} {base : Nat} {v : Value} {n : Nat} {xs : List Value} (hs : a.eval s = v) (hown : W.ownsRow base e 1 v n xs) (hL : Later w0 W) (hb0 : w0.heap.size ≤ base) (hb1 : base ≤ W.heap.size)
  {b q m c : Nat} {l : List Value} (hx : a.eval x = .slice (some ⟨b, q, none⟩) m c) (hlen : l.length = m) (hl : ∀ (j : Nat) (u : Value), l[j]? = some u → W.cell? ⟨b, q + j, none⟩ = some u) (h1 : ∀ u, u ∈ l → u.oneCell' = true) (hn : n + m ≤ 1073741824)
  (h : ∀ v' w', w'.ownsRow base e 1 v' (n + m) (xs ++ l) → Later w0 w' → W.grownBy w' v.ownBlock → K (a.put o.dst v') w') : o.wp P a W K Q := by
 obtain ⟨i, i1, i2, i3, i4⟩ := info_parts hi
 have hb : (n + m) * bytes ≤ 140737488355328 := by
  have : (n + m) * bytes ≤ 1073741825 * 4096 := Nat.mul_le_mul (by omega) hby
  omega
 refine wp_append_own _ s x t ho base e i z 1 bytes ht i1 i2 i3 i4 hz (by decide) v n xs hs hown ⟨b, q, none⟩ m c l hx (by omega) (fun j u hu => ?_) h1 (by unfold maxLen; omega) hb hb1 (fun v' w' h2 h3 _ => ?_)
 ·have hadd : (⟨b, q, none⟩ : Addr).add j = ⟨b, q + j, none⟩ := by unfold Addr.add; split <;> simp_all
  rw [hadd]
  exact hl j u hu
 ·exact h v' w' h2 (hL.of_grown h3 fun g hg => Nat.le_trans hb0 (hown.lt g hg).1) h3
/-- A duty that has a piece, and a trip in its first. -/
def PosD (ps : List (List Int)) : Prop := 0 < ps.length ∧ 0 < (ps.headD []).length
theorem dut_key {w : World} {A : Option Addr} {n c : Nat} {ps : List (List Int)} (h : DutyAt w A n c ⟨ps⟩) (hp : PosD ps) :
  ∃ b o b1 o1 n1 c1, A = some ⟨b, o, none⟩ ∧ 0 < n ∧ 0 < n1 ∧ (∀ W [Later w W], W.cell? ⟨b, o, none⟩ = some (.slice (some ⟨b1, o1, none⟩) n1 c1)) ∧ (∀ W [Later w W], W.cell? ⟨b1, o1, none⟩ = some (.int .i64 (keyD ps))) := by
 have hP := h.l_Pieces
 simp only at hP
 obtain ⟨b1, o1, A1, n1, c1, x, rfl, hx, hc1, hi1⟩ := Sl.row_ hP (k := 0) (by rw [hP.len]; exact hp.1)
 have ex : ps.headD [] = x := headP_of hx.out
 have hp2 := hp.2
 rw [ex] at hp2
 obtain ⟨b3, o3, v, rfl, hv, hc3, _⟩ := Ints.at_ hi1 (k := 0) (by rw [hi1.len]; exact hp2)
 have hk : keyD ps = v := by unfold keyD; rw [ex]; exact headI_of hv.out
 rw [hk]
 simp only [Nat.add_zero] at hc1 hc3
 exact ⟨b1, o1, b3, o3, n1, c1, rfl, by rw [hP.len]; exact hp.1, by rw [hi1.len]; exact hp2, hc1, hc3⟩
theorem own_someD {W : World} {base : Nat} {e : TypeId} {v : Value} {n : Nat} {xs : List Value} (h : W.ownsRow base e 1 v n xs) (hn : 0 < n) : ∃ g c, v = .slice (some ⟨g, 0, none⟩) n c := by
 rcases h.2 with ⟨_, h0⟩ | ⟨g, cap, cur, h1, _⟩
 ·omega
 ·exact ⟨g, cap, h1⟩
theorem own_eqD {W : World} {base : Nat} {e : TypeId} {v : Value} {n m : Nat} {xs ys : List Value} (h : W.ownsRow base e 1 v n xs) (hm : n = m) (hx : xs = ys) : W.ownsRow base e 1 v m ys := by subst hm; subst hx; exact h
theorem lit1_cells {W : World} {g : Nat} {t : TypeId} {v : Value} (h : Blk W g t #[v]) : ∀ (j : Nat) (u : Value), [v][j]? = some u → W.cell? ⟨g, 0 + j, none⟩ = some u := by
 intro j u hu
 cases j with
 | zero => simp at hu; subst hu; rw [h.cell]; rfl
 | succ j => simp at hu
theorem DutS.put {w w' : World} {base b2 : Nat} {e : TypeId} {ov v : Value} {L : List DutE} {x : DutE} {A : Option Addr} {xn xc : Nat} (h : DutS w base e ov L) (hx1 : x.1 = .slice A xn xc) (hx2 : DutyOw w A xn xc ⟨x.2.1⟩ x.2.2) (hxn : x.2.2.Nodup) (hxd : ∀ b, b ∈ x.2.2 → b ∉ blksD L) (hl : Later w w') (hb : w.heap.size ≤ b2)
  (hown : w'.ownsRow b2 e 1 v (insK keyE L x).length ((insK keyE L x).map (·.1))) : DutS w' b2 e v (insK keyE L x) := by
 have hp := insK_perm (key := keyE) L x
 have hpb := blksD_perm hp
 have hbx : blksD (x :: L) = x.2.2 ++ blksD L := by simp [blksD]
 rw [hbx] at hpb
 refine ⟨hown, fun y hy => ?_, hpb.nodup_iff.2 ?_, fun g hg hm => ?_⟩
 ·rcases List.mem_cons.1 (hp.mem_iff.1 hy) with rfl | hy
  ·exact ⟨A, xn, xc, hx1, hx2.later hl⟩
  ·obtain ⟨A', n', c', e1, e2⟩ := h.el y hy
   exact ⟨A', n', c', e1, e2.later hl⟩
 ·exact List.nodup_append.2 ⟨hxn, h.nd, fun a ha b hb e => hxd a ha (e ▸ hb)⟩
 ·have h1 := (hown.lt g hg).1
  rcases List.mem_append.1 (hpb.mem_iff.1 hm) with h2 | h2
  ·have := hx2.lt g h2; omega
  ·have := h.lt g h2; omega
set_option maxHeartbeats 4000000 in
theorem spec_l13Put {w : World} {base g cap : Nat} {L : List DutE} {x : DutE} {A : Option Addr} {xn xc : Nat} (hD : DutS w base 76 (.slice (some ⟨g, 0, none⟩) L.length cap) L) (hx1 : x.1 = .slice A xn xc) (hx2 : DutyOw w A xn xc ⟨x.2.1⟩ x.2.2) (hxn : x.2.2.Nodup) (hxd : ∀ b, b ∈ x.2.2 → b ∉ blksD L) (hpos : ∀ y, y ∈ L → PosD y.2.1) (hposx : PosD x.2.1) (hL : L.length ≤ 100) :
  Calls Tryz.prog 67 #[.slice (some ⟨g, 0, none⟩) L.length cap, .agg #[.slice A xn xc]] w (fun e w' => ∃ ov g' cap', e = .returned ov ∧ ov = .slice (some ⟨g', 0, none⟩) (insK keyE L x).length cap' ∧ DutS w' w.heap.size 76 ov (insK keyE L x) ∧ Later w w') := by
 have HD := Lib.hid hD
 have HX1 := Lib.hid hx1
 have HX2 := Lib.hid hx2
 have HXN := Lib.hid hxn
 have HXD := Lib.hid hxd
 have HPO := Lib.hid hpos
 have HPX := Lib.hid hposx
 obtain ⟨n, hn⟩ : ∃ n, n = L.length := ⟨_, rfl⟩
 rw [← hn] at hL
 rw [← hn]
 have HN := Lib.hid hn
 have hcap : n ≤ cap := by
  rcases hD.own.2 with ⟨h3, _⟩ | ⟨g', cap', cur, h3, hbg, hg, hnc, hcm, hsz, htk⟩
  ·cases h3
  ·cases h3; omega
 have hcapm : cap ≤ 9223372036854775807 := by
  rcases hD.own.2 with ⟨h3, _⟩ | ⟨g', cap', cur, h3, hbg, hg, hnc, hcm, hsz, htk⟩
  ·cases h3
  ·cases h3; unfold maxLen at hcm; omega
 have HCL : Hid (∀ W' [Later w W'] (j : Nat) (y : DutE), L[j]? = some y → W'.cell? ⟨g, 0 + j, none⟩ = some y.1) := Lib.hid fun W' hW' j y hy => by
  obtain ⟨cs, r1, r2, r3⟩ : RowE 76 cap w g L := by
   rcases hD.shape with ⟨h3, _⟩ | ⟨g', cap', h3, _, hr⟩
   ·cases h3
   ·cases h3; exact hr
  rw [Nat.zero_add, (r1.later hW').cell]
  exact r3 j y hy
 obtain ⟨b, o, b1, o1, n1, c1, rfl, hxp, hn1, hcx, hcx1⟩ := dut_key hx2.reads hposx
 obtain ⟨kx, hkx⟩ : ∃ kx, kx = keyD x.2.1 := ⟨_, rfl⟩
 rw [← hkx] at hcx1
 have HKX := Lib.hid hkx
 clear hD hx1 hx2 hxn hxd hpos hposx hn hkx
 have HB0 : ∀ W [Later (w.alloc (.cells #[.slice (some ⟨b,  o,  none⟩) xn xc] 76)) W] (j : Nat), W.cell? ⟨w.heap.size, j, none⟩ = #[.slice (some ⟨b,  o,  none⟩) xn xc][j]? := Later.boxes (t := 76) (fr := (0, 0)) (heap_new (by simp; try omega)); obtain ⟨wb, hwb⟩ : ∃ wb : World, wb = (w.alloc (.cells #[.slice (some ⟨b,  o,  none⟩) xn xc] 76)) := ⟨_, rfl⟩; haveI hbW : Later wb (w.alloc (.cells #[.slice (some ⟨b,  o,  none⟩) xn xc] 76)) := (by rw [hwb]; exact Later.rfl_); haveI hww : Later w wb := (by rw [hwb]; infer_instance); rw [← hwb] at HB0; have hbE := Lib.hid (congrArg (fun x : World => x.heap.size) hwb); clear hwb
 clear hbE
 go_enter Tryz.func67, Tryz.ntmps67
 go_wp2_with fail
 go_loopw [5] (fun iv wr => ∃ m : Nat, m ≤ n ∧ iv = .int .i64 (m : Int) ∧ Hid (posK keyE L x n = posK keyE L x m) ∧ Later wb wr ∧ Later w wr) (fun iv _ => (intOf iv).toNat)
 case atStart => exact ⟨n, by omega, rfl, rfl, inferInstance, inferInstance⟩
 case round =>
  obtain ⟨m, hm, rfl, HM, hX, hX2⟩ := hrel
  by_cases h0 : m = 0
  ·have HIN : Hid (insK keyE L x = L.take m ++ x :: L.drop m) := by show _ = _; unfold insK; rw [← HN.out, HM.out, h0]; rfl
   subst h0
   clear HM
   go_wp2_with fail
   refine gO (S := (fun w' => Later wb w' ∧ Later w w' ∧ Later wr w')) (by kernel_rfl) (by exact ⟨inferInstance, inferInstance, inferInstance⟩) (fun _ _ _ _ _ h => h) (fun hHeld hZq => ?_)
   refine gT 0 rfl (by kernel_rfl) (by intro w' hSw; go_simp <;> rfl) hZq hHeld ?_; simp only [Act.put, sA, sZ, sS]
   refine gT 1 rfl (by kernel_rfl) (by intro w' hSw; go_simp <;> rfl) hZq hHeld ?_; simp only [Act.put, sA, sZ, sS]
   refine gT 2 rfl (by kernel_rfl) (by intro w' hSw; go_simp <;> rfl) hZq hHeld ?_; simp only [Act.put, sA, sZ, sS]
   refine gU 3 rfl (by kernel_rfl) hZq hHeld ?_; simp only [Act.put, sA, sZ, sS]
   refine gU 4 rfl (by kernel_rfl) hZq hHeld ?_; simp only [Act.put, sA, sZ, sS]
   refine gU 5 rfl (by kernel_rfl) hZq hHeld ?_; simp only [Act.put, sA, sZ, sS]
   refine gU 6 rfl (by kernel_rfl) hZq hHeld ?_; simp only [Act.put, sA, sZ, sS]
   refine gU 7 rfl (by kernel_rfl) hZq hHeld ?_; simp only [Act.put, sA, sZ, sS]
   refine gU 8 rfl (by kernel_rfl) hZq hHeld ?_; simp only [Act.put, sA, sZ, sS]
   refine gU 9 rfl (by kernel_rfl) hZq hHeld ?_; simp only [Act.put, sA, sZ, sS]
   refine gU 10 rfl (by kernel_rfl) hZq hHeld ?_; simp only [Act.put, sA, sZ, sS]
   refine gU 11 rfl (by kernel_rfl) hZq hHeld ?_; simp only [Act.put, sA, sZ, sS]
   refine gU 12 rfl (by kernel_rfl) hZq hHeld ?_; simp only [Act.put, sA, sZ, sS]
   refine gU 13 rfl (by kernel_rfl) hZq hHeld ?_; simp only [Act.put, sA, sZ, sS]
   refine gU 14 rfl (by kernel_rfl) hZq hHeld ?_; simp only [Act.put, sA, sZ, sS]
   refine gU 15 rfl (by kernel_rfl) hZq hHeld ?_; simp only [Act.put, sA, sZ, sS]
   refine gU 16 rfl (by kernel_rfl) hZq hHeld ?_; simp only [Act.put, sA, sZ, sS]
   refine gU 17 rfl (by kernel_rfl) hZq hHeld ?_; simp only [Act.put, sA, sZ, sS]
   refine gU 18 rfl (by kernel_rfl) hZq hHeld ?_; simp only [Act.put, sA, sZ, sS]
   refine gU 19 rfl (by kernel_rfl) hZq hHeld ?_; simp only [Act.put, sA, sZ, sS]
   refine gT 20 rfl (by kernel_rfl) (by intro w' hSw; go_simp <;> rfl) hZq hHeld ?_; simp only [Act.put, sA, sZ, sS]
   refine wpAnyH_done (by kernel_rfl) ?_ _
   go_wp2_with fail
   have HFL : Hid (((L.take 0).map (·.1)).length = 0) := Lib.hid (by have := HN.out; simp <;> omega)
   have HFC : Hid (∀ W' [Later w W'] (j : Nat) (u : Value), ((L.take 0).map (·.1))[j]? = some u → W'.cell? ⟨g, 0 + j, none⟩ = some u) := Lib.hid fun W' hW' j u hu => by
    rw [List.getElem?_map, Option.map_eq_some_iff] at hu
    obtain ⟨y, hy, rfl⟩ := hu
    rw [List.getElem?_take] at hy
    split at hy
    ·exact HCL.out W' j y hy
    ·cases hy
   have HON : Hid (∀ y, y ∈ L → y.1.oneCell' = true) := Lib.hid fun y hy => by obtain ⟨a1, a2, a3, a4, _⟩ := HD.out.el y hy; rw [a4]; rfl
   have HFO : Hid (∀ u, u ∈ (L.take 0).map (·.1) → u.oneCell' = true) := Lib.hid fun u hu => by
    obtain ⟨y, hy, rfl⟩ := List.mem_map.1 hu
    exact HON.out y (List.mem_of_mem_take hy)
   have HBL : Hid (((L.drop 0).map (·.1)).length = n - 0) := Lib.hid (by have := HN.out; simp; omega)
   have HBO : Hid (∀ u, u ∈ (L.drop 0).map (·.1) → u.oneCell' = true) := Lib.hid fun u hu => by
    obtain ⟨y, hy, rfl⟩ := List.mem_map.1 hu
    exact HON.out y (List.mem_of_mem_drop hy)
   have hmi : ((0 : Nat) : Int) ≤ n := by omega
   have hmcap : ((0 : Nat) : Int) ≤ cap := by omega
   by_cases hcm : cap = 0
   ·have HBC : Hid (∀ W' [Later w W'] (j : Nat) (u : Value), ((L.drop 0).map (·.1))[j]? = some u → W'.cell? ⟨g, 0 + j, none⟩ = some u) := Lib.hid fun W' hW' j u hu => by rw [List.drop_eq_nil_of_le (by have := HN.out; omega)] at hu; simp at hu
    clear HBL
    have HBL : Hid (((L.drop 0).map (·.1)).length = 0) := Lib.hid (by rw [List.length_map, List.length_drop]; have := HN.out; omega)
    subst hcm
    have h49 := Later.size (w := wb) (W := wr) inferInstance
    refine gO (S := (fun w' => Later wb w' ∧ Later w w')) (by kernel_rfl) (by exact ⟨inferInstance, inferInstance⟩) (fun _ _ _ _ _ h => h) (fun hHeld hZq => ?_)
    refine gT 1 rfl (by kernel_rfl) (by intro w' hSw; go_simp <;> rfl) hZq hHeld ?_; simp only [Act.put, sA, sZ, sS]
    refine gT 2 rfl (by kernel_rfl) (by intro w' hSw; go_simp <;> rfl) hZq hHeld ?_; simp only [Act.put, sA, sZ, sS]
    refine gT 3 rfl (by kernel_rfl) (by intro w' hSw; go_simp <;> rfl) hZq hHeld ?_; simp only [Act.put, sA, sZ, sS]
    refine gT 5 rfl (by kernel_rfl) (by intro w' hSw; go_simp <;> rfl) hZq hHeld ?_; simp only [Act.put, sA, sZ, sS]
    refine gT 8 rfl (by kernel_rfl) (by intro w' hSw; go_simp <;> rfl) hZq hHeld ?_; simp only [Act.put, sA, sZ, sS]
    refine gT 9 rfl (by kernel_rfl) (by intro w' hSw; go_simp <;> rfl) hZq hHeld ?_; simp only [Act.put, sA, sZ, sS]
    refine gT 10 rfl (by kernel_rfl) (by intro w' hSw; go_simp <;> rfl) hZq hHeld ?_; simp only [Act.put, sA, sZ, sS]
    refine wpAnyH_ready (rs := [0, 6]) (by kernel_rfl) (by simp) (AllReadyH.cons rfl (fun K hK => ?r2x1_2_3_5_8_9_10_0) (AllReadyH.cons rfl (fun K hK => ?r2x1_2_3_5_8_9_10_6) AllReadyH.nil))
    case' r2x1_2_3_5_8_9_10_0 =>
     go_simp
     skip
     refine hK.out _ _ (by exact ⟨inferInstance, inferInstance⟩) (fun hHeld => ?_)
     try simp only [Act.put, sA, sZ, sS]
     refine wpAnyH_ready (rs := [4, 6]) (by kernel_rfl) (by simp) (AllReadyH.cons rfl (fun K hK => ?r2x0_1_2_3_5_8_9_10_4) (AllReadyH.cons rfl (fun K hK => ?r2x0_1_2_3_5_8_9_10_6) AllReadyH.nil))
     case' r2x0_1_2_3_5_8_9_10_4 =>
      refine wp_app_NV (w0 := wb) (base := wb.heap.size) _ _ 55 rfl Tryz.underlying55 infoDt rfl (by decide) rfl (v := .slice (some ⟨_, 0, none⟩) 0 0) (own_lit0 (by first | exact heap_new (by simp) | exact (heap_old (by simp)).trans (heap_new (by simp))) (by first | exact h49 | (simp; omega) | omega)) inferInstance (Nat.le_refl _) (Later.size (w := wb) inferInstance) rfl HFL.out (HFC.out _) HFO.out (by omega) ?_; intro v1 w11 hown1 hX1 hG1; have hX1w : Later w w11 := hww.trans hX1; (first | (have h6 : Blk w11 (wr.heap.size + 1) 76 #[.slice (some ⟨b, o, none⟩) xn xc] := grown_blk hG1 (by exact heap_new (by simp)) (fun k hk => by simp [Value.ownBlock] at hk; omega)) | (have h6 : Blk w11 wr.heap.size 76 #[.slice (some ⟨b, o, none⟩) xn xc] := grown_blk hG1 (by exact (heap_old (by simp)).trans (heap_new (by simp))) (fun k hk => by simp [Value.ownBlock] at hk; omega)) | skip)
      refine hK.out _ _ (by exact ⟨inferInstance, inferInstance⟩) (fun hHeld => ?_)
      try simp only [Act.put, sA, sZ, sS]
      refine gE 6 rfl (by kernel_rfl) (fun K hK => ?_)
      go_simp
      skip
      refine hK.out _ _ (by exact ⟨inferInstance, inferInstance⟩) (fun hHeld => ?_)
      try simp only [Act.put, sA, sZ, sS]
      refine gE 7 rfl (by kernel_rfl) (fun K hK => ?_)
      refine wp_app_NV (w0 := wb) (base := wb.heap.size) _ _ 55 rfl Tryz.underlying55 infoDt rfl (by decide) rfl (l := [.slice (some ⟨b, o, none⟩) xn xc]) (m := 1) (by exact ownsRow_later hown1 (inferInstance : Later w11 _)) inferInstance (Nat.le_refl _) (Later.size (w := wb) inferInstance) rfl rfl (lit1_cells (t := 76) (by first | exact h6 | exact heap_new (by simp))) (fun u hu => by rw [List.mem_singleton.1 hu]; rfl) (by omega) ?_; intro v2 w12 hown2 hX2' hG2; have hX2w : Later w w12 := hww.trans hX2'
      refine hK.out _ _ (by exact ⟨inferInstance, inferInstance⟩) (fun hHeld => ?_)
      try simp only [Act.put, sA, sZ, sS]
      refine gE 11 rfl (by kernel_rfl) (fun K hK => ?_)
      refine wp_app_NV (w0 := wb) (base := wb.heap.size) _ _ 55 rfl Tryz.underlying55 infoDt rfl (by decide) rfl (by exact ownsRow_later hown2 (inferInstance : Later w12 _)) inferInstance (Nat.le_refl _) (Later.size (w := wb) inferInstance) rfl HBL.out (HBC.out _) HBO.out (by omega) ?_; intro v3 w13 hown3 hX3 hG3; have hX3w : Later w w13 := hww.trans hX3
      refine hK.out _ _ (by exact ⟨inferInstance, inferInstance⟩) (fun hHeld => ?_)
      try simp only [Act.put, sA, sZ, sS]
      refine gT 12 rfl (by kernel_rfl) (by intro w' hSw; go_simp <;> rfl) hZq hHeld ?_; simp only [Act.put, sA, sZ, sS]
      refine wpAnyH_done (by kernel_rfl) ?_ _
     case' r2x0_1_2_3_5_8_9_10_6 =>
      go_simp
      skip
      refine hK.out _ _ (by exact ⟨inferInstance, inferInstance⟩) (fun hHeld => ?_)
      try simp only [Act.put, sA, sZ, sS]
      refine gE 4 rfl (by kernel_rfl) (fun K hK => ?_)
      refine wp_app_NV (w0 := wb) (base := wb.heap.size) _ _ 55 rfl Tryz.underlying55 infoDt rfl (by decide) rfl (v := .slice (some ⟨_, 0, none⟩) 0 0) (own_lit0 (by first | exact heap_new (by simp) | exact (heap_old (by simp)).trans (heap_new (by simp))) (by first | exact h49 | (simp; omega) | omega)) inferInstance (Nat.le_refl _) (Later.size (w := wb) inferInstance) rfl HFL.out (HFC.out _) HFO.out (by omega) ?_; intro v1 w11 hown1 hX1 hG1; have hX1w : Later w w11 := hww.trans hX1; (first | (have h6 : Blk w11 (wr.heap.size + 1) 76 #[.slice (some ⟨b, o, none⟩) xn xc] := grown_blk hG1 (by exact heap_new (by simp)) (fun k hk => by simp [Value.ownBlock] at hk; omega)) | (have h6 : Blk w11 wr.heap.size 76 #[.slice (some ⟨b, o, none⟩) xn xc] := grown_blk hG1 (by exact (heap_old (by simp)).trans (heap_new (by simp))) (fun k hk => by simp [Value.ownBlock] at hk; omega)) | skip)
      refine hK.out _ _ (by exact ⟨inferInstance, inferInstance⟩) (fun hHeld => ?_)
      try simp only [Act.put, sA, sZ, sS]
      refine gE 7 rfl (by kernel_rfl) (fun K hK => ?_)
      refine wp_app_NV (w0 := wb) (base := wb.heap.size) _ _ 55 rfl Tryz.underlying55 infoDt rfl (by decide) rfl (l := [.slice (some ⟨b, o, none⟩) xn xc]) (m := 1) (by exact ownsRow_later hown1 (inferInstance : Later w11 _)) inferInstance (Nat.le_refl _) (Later.size (w := wb) inferInstance) rfl rfl (lit1_cells (t := 76) (by first | exact h6 | exact heap_new (by simp))) (fun u hu => by rw [List.mem_singleton.1 hu]; rfl) (by omega) ?_; intro v2 w12 hown2 hX2' hG2; have hX2w : Later w w12 := hww.trans hX2'
      refine hK.out _ _ (by exact ⟨inferInstance, inferInstance⟩) (fun hHeld => ?_)
      try simp only [Act.put, sA, sZ, sS]
      refine gE 11 rfl (by kernel_rfl) (fun K hK => ?_)
      refine wp_app_NV (w0 := wb) (base := wb.heap.size) _ _ 55 rfl Tryz.underlying55 infoDt rfl (by decide) rfl (by exact ownsRow_later hown2 (inferInstance : Later w12 _)) inferInstance (Nat.le_refl _) (Later.size (w := wb) inferInstance) rfl HBL.out (HBC.out _) HBO.out (by omega) ?_; intro v3 w13 hown3 hX3 hG3; have hX3w : Later w w13 := hww.trans hX3
      refine hK.out _ _ (by exact ⟨inferInstance, inferInstance⟩) (fun hHeld => ?_)
      try simp only [Act.put, sA, sZ, sS]
      refine gT 12 rfl (by kernel_rfl) (by intro w' hSw; go_simp <;> rfl) hZq hHeld ?_; simp only [Act.put, sA, sZ, sS]
      refine wpAnyH_done (by kernel_rfl) ?_ _
    case' r2x1_2_3_5_8_9_10_6 =>
     go_simp
     skip
     refine hK.out _ _ (by exact ⟨inferInstance, inferInstance⟩) (fun hHeld => ?_)
     try simp only [Act.put, sA, sZ, sS]
     refine gE 0 rfl (by kernel_rfl) (fun K hK => ?_)
     go_simp
     skip
     refine hK.out _ _ (by exact ⟨inferInstance, inferInstance⟩) (fun hHeld => ?_)
     try simp only [Act.put, sA, sZ, sS]
     refine gE 4 rfl (by kernel_rfl) (fun K hK => ?_)
     refine wp_app_NV (w0 := wb) (base := wb.heap.size) _ _ 55 rfl Tryz.underlying55 infoDt rfl (by decide) rfl (v := .slice (some ⟨_, 0, none⟩) 0 0) (own_lit0 (by first | exact heap_new (by simp) | exact (heap_old (by simp)).trans (heap_new (by simp))) (by first | exact h49 | (simp; omega) | omega)) inferInstance (Nat.le_refl _) (Later.size (w := wb) inferInstance) rfl HFL.out (HFC.out _) HFO.out (by omega) ?_; intro v1 w11 hown1 hX1 hG1; have hX1w : Later w w11 := hww.trans hX1; (first | (have h6 : Blk w11 (wr.heap.size + 1) 76 #[.slice (some ⟨b, o, none⟩) xn xc] := grown_blk hG1 (by exact heap_new (by simp)) (fun k hk => by simp [Value.ownBlock] at hk; omega)) | (have h6 : Blk w11 wr.heap.size 76 #[.slice (some ⟨b, o, none⟩) xn xc] := grown_blk hG1 (by exact (heap_old (by simp)).trans (heap_new (by simp))) (fun k hk => by simp [Value.ownBlock] at hk; omega)) | skip)
     refine hK.out _ _ (by exact ⟨inferInstance, inferInstance⟩) (fun hHeld => ?_)
     try simp only [Act.put, sA, sZ, sS]
     refine gE 7 rfl (by kernel_rfl) (fun K hK => ?_)
     refine wp_app_NV (w0 := wb) (base := wb.heap.size) _ _ 55 rfl Tryz.underlying55 infoDt rfl (by decide) rfl (l := [.slice (some ⟨b, o, none⟩) xn xc]) (m := 1) (by exact ownsRow_later hown1 (inferInstance : Later w11 _)) inferInstance (Nat.le_refl _) (Later.size (w := wb) inferInstance) rfl rfl (lit1_cells (t := 76) (by first | exact h6 | exact heap_new (by simp))) (fun u hu => by rw [List.mem_singleton.1 hu]; rfl) (by omega) ?_; intro v2 w12 hown2 hX2' hG2; have hX2w : Later w w12 := hww.trans hX2'
     refine hK.out _ _ (by exact ⟨inferInstance, inferInstance⟩) (fun hHeld => ?_)
     try simp only [Act.put, sA, sZ, sS]
     refine gE 11 rfl (by kernel_rfl) (fun K hK => ?_)
     refine wp_app_NV (w0 := wb) (base := wb.heap.size) _ _ 55 rfl Tryz.underlying55 infoDt rfl (by decide) rfl (by exact ownsRow_later hown2 (inferInstance : Later w12 _)) inferInstance (Nat.le_refl _) (Later.size (w := wb) inferInstance) rfl HBL.out (HBC.out _) HBO.out (by omega) ?_; intro v3 w13 hown3 hX3 hG3; have hX3w : Later w w13 := hww.trans hX3
     refine hK.out _ _ (by exact ⟨inferInstance, inferInstance⟩) (fun hHeld => ?_)
     try simp only [Act.put, sA, sZ, sS]
     refine gT 12 rfl (by kernel_rfl) (by intro w' hSw; go_simp <;> rfl) hZq hHeld ?_; simp only [Act.put, sA, sZ, sS]
     refine wpAnyH_done (by kernel_rfl) ?_ _
    all_goals
     have hle := insK_len (key := keyE) L x
     have hns := HN.out
     have hownE : w13.ownsRow wb.heap.size 76 1 v3 (insK keyE L x).length ((insK keyE L x).map (·.1)) := own_eqD hown3 (by omega) (by rw [HIN.out]; simp [HX1.out])
     obtain ⟨g3, c3, hv3⟩ := own_someD hownE (by omega)
     have HR := Lib.hid (HD.out.put HX1.out HX2.out HXN.out HXD.out hX3w hww.size hownE)
     have HRB : Hid (w.heap.size ≤ wb.heap.size) := Lib.hid hww.size
     have HV3 := Lib.hid hv3
     clear hown1 hown2 hown3 hG1 hG2 hG3 hownE hv3 hle hns
     go_wp2_with fail
     go_ret
     have HD9 := Lib.hid (⟨own_base HR.out.own HRB.out, HR.out.el, HR.out.nd, HR.out.far⟩ : DutS _ w.heap.size _ _ _)
     first
      | exact ⟨v3, g3, c3, rfl, HV3.out, HD9.out.later inferInstance, inferInstance⟩
      | exact ⟨v3, by first | rfl | simp, ⟨g3, c3, HV3.out⟩, HD9.out.later inferInstance, inferInstance⟩
   ·have HBC : Hid (∀ W' [Later w W'] (j : Nat) (u : Value), ((L.drop 0).map (·.1))[j]? = some u → W'.cell? ⟨g, 0 + j, none⟩ = some u) := Lib.hid fun W' hW' j u hu => by
     rw [List.getElem?_map, Option.map_eq_some_iff] at hu
     obtain ⟨y, hy, rfl⟩ := hu
     rw [List.getElem?_drop] at hy
     have := HCL.out W' (0 + j) y hy
     rw [Nat.zero_add] at this
     exact this
    have h49 := Later.size (w := wb) (W := wr) inferInstance
    refine gO (S := (fun w' => Later wb w' ∧ Later w w')) (by kernel_rfl) (by exact ⟨inferInstance, inferInstance⟩) (fun _ _ _ _ _ h => h) (fun hHeld hZq => ?_)
    refine gT 1 rfl (by kernel_rfl) (by intro w' hSw; go_simp <;> rfl) hZq hHeld ?_; simp only [Act.put, sA, sZ, sS]
    refine gT 2 rfl (by kernel_rfl) (by intro w' hSw; go_simp <;> rfl) hZq hHeld ?_; simp only [Act.put, sA, sZ, sS]
    refine gT 3 rfl (by kernel_rfl) (by intro w' hSw; go_simp <;> rfl) hZq hHeld ?_; simp only [Act.put, sA, sZ, sS]
    refine gT 5 rfl (by kernel_rfl) (by intro w' hSw; go_simp <;> rfl) hZq hHeld ?_; simp only [Act.put, sA, sZ, sS]
    refine gT 8 rfl (by kernel_rfl) (by intro w' hSw; go_simp <;> rfl) hZq hHeld ?_; simp only [Act.put, sA, sZ, sS]
    refine gT 9 rfl (by kernel_rfl) (by intro w' hSw; go_simp <;> rfl) hZq hHeld ?_; simp only [Act.put, sA, sZ, sS]
    refine gT 10 rfl (by kernel_rfl) (by intro w' hSw; go_simp <;> rfl) hZq hHeld ?_; simp only [Act.put, sA, sZ, sS]
    refine wpAnyH_ready (rs := [0, 6]) (by kernel_rfl) (by simp) (AllReadyH.cons rfl (fun K hK => ?r3x1_2_3_5_8_9_10_0) (AllReadyH.cons rfl (fun K hK => ?r3x1_2_3_5_8_9_10_6) AllReadyH.nil))
    case' r3x1_2_3_5_8_9_10_0 =>
     go_simp
     skip
     refine hK.out _ _ (by exact ⟨inferInstance, inferInstance⟩) (fun hHeld => ?_)
     try simp only [Act.put, sA, sZ, sS]
     refine wpAnyH_ready (rs := [4, 6]) (by kernel_rfl) (by simp) (AllReadyH.cons rfl (fun K hK => ?r3x0_1_2_3_5_8_9_10_4) (AllReadyH.cons rfl (fun K hK => ?r3x0_1_2_3_5_8_9_10_6) AllReadyH.nil))
     case' r3x0_1_2_3_5_8_9_10_4 =>
      refine wp_app_NV (w0 := wb) (base := wb.heap.size) _ _ 55 rfl Tryz.underlying55 infoDt rfl (by decide) rfl (v := .slice (some ⟨_, 0, none⟩) 0 0) (own_lit0 (by first | exact heap_new (by simp) | exact (heap_old (by simp)).trans (heap_new (by simp))) (by first | exact h49 | (simp; omega) | omega)) inferInstance (Nat.le_refl _) (Later.size (w := wb) inferInstance) rfl HFL.out (HFC.out _) HFO.out (by omega) ?_; intro v1 w11 hown1 hX1 hG1; have hX1w : Later w w11 := hww.trans hX1; (first | (have h6 : Blk w11 (wr.heap.size + 1) 76 #[.slice (some ⟨b, o, none⟩) xn xc] := grown_blk hG1 (by exact heap_new (by simp)) (fun k hk => by simp [Value.ownBlock] at hk; omega)) | (have h6 : Blk w11 wr.heap.size 76 #[.slice (some ⟨b, o, none⟩) xn xc] := grown_blk hG1 (by exact (heap_old (by simp)).trans (heap_new (by simp))) (fun k hk => by simp [Value.ownBlock] at hk; omega)) | skip)
      refine hK.out _ _ (by exact ⟨inferInstance, inferInstance⟩) (fun hHeld => ?_)
      try simp only [Act.put, sA, sZ, sS]
      refine gE 6 rfl (by kernel_rfl) (fun K hK => ?_)
      go_simp
      skip
      refine hK.out _ _ (by exact ⟨inferInstance, inferInstance⟩) (fun hHeld => ?_)
      try simp only [Act.put, sA, sZ, sS]
      refine gE 7 rfl (by kernel_rfl) (fun K hK => ?_)
      refine wp_app_NV (w0 := wb) (base := wb.heap.size) _ _ 55 rfl Tryz.underlying55 infoDt rfl (by decide) rfl (l := [.slice (some ⟨b, o, none⟩) xn xc]) (m := 1) (by exact ownsRow_later hown1 (inferInstance : Later w11 _)) inferInstance (Nat.le_refl _) (Later.size (w := wb) inferInstance) rfl rfl (lit1_cells (t := 76) (by first | exact h6 | exact heap_new (by simp))) (fun u hu => by rw [List.mem_singleton.1 hu]; rfl) (by omega) ?_; intro v2 w12 hown2 hX2' hG2; have hX2w : Later w w12 := hww.trans hX2'
      refine hK.out _ _ (by exact ⟨inferInstance, inferInstance⟩) (fun hHeld => ?_)
      try simp only [Act.put, sA, sZ, sS]
      refine gE 11 rfl (by kernel_rfl) (fun K hK => ?_)
      refine wp_app_NV (w0 := wb) (base := wb.heap.size) _ _ 55 rfl Tryz.underlying55 infoDt rfl (by decide) rfl (by exact ownsRow_later hown2 (inferInstance : Later w12 _)) inferInstance (Nat.le_refl _) (Later.size (w := wb) inferInstance) rfl HBL.out (HBC.out _) HBO.out (by omega) ?_; intro v3 w13 hown3 hX3 hG3; have hX3w : Later w w13 := hww.trans hX3
      refine hK.out _ _ (by exact ⟨inferInstance, inferInstance⟩) (fun hHeld => ?_)
      try simp only [Act.put, sA, sZ, sS]
      refine gT 12 rfl (by kernel_rfl) (by intro w' hSw; go_simp <;> rfl) hZq hHeld ?_; simp only [Act.put, sA, sZ, sS]
      refine wpAnyH_done (by kernel_rfl) ?_ _
     case' r3x0_1_2_3_5_8_9_10_6 =>
      go_simp
      skip
      refine hK.out _ _ (by exact ⟨inferInstance, inferInstance⟩) (fun hHeld => ?_)
      try simp only [Act.put, sA, sZ, sS]
      refine gE 4 rfl (by kernel_rfl) (fun K hK => ?_)
      refine wp_app_NV (w0 := wb) (base := wb.heap.size) _ _ 55 rfl Tryz.underlying55 infoDt rfl (by decide) rfl (v := .slice (some ⟨_, 0, none⟩) 0 0) (own_lit0 (by first | exact heap_new (by simp) | exact (heap_old (by simp)).trans (heap_new (by simp))) (by first | exact h49 | (simp; omega) | omega)) inferInstance (Nat.le_refl _) (Later.size (w := wb) inferInstance) rfl HFL.out (HFC.out _) HFO.out (by omega) ?_; intro v1 w11 hown1 hX1 hG1; have hX1w : Later w w11 := hww.trans hX1; (first | (have h6 : Blk w11 (wr.heap.size + 1) 76 #[.slice (some ⟨b, o, none⟩) xn xc] := grown_blk hG1 (by exact heap_new (by simp)) (fun k hk => by simp [Value.ownBlock] at hk; omega)) | (have h6 : Blk w11 wr.heap.size 76 #[.slice (some ⟨b, o, none⟩) xn xc] := grown_blk hG1 (by exact (heap_old (by simp)).trans (heap_new (by simp))) (fun k hk => by simp [Value.ownBlock] at hk; omega)) | skip)
      refine hK.out _ _ (by exact ⟨inferInstance, inferInstance⟩) (fun hHeld => ?_)
      try simp only [Act.put, sA, sZ, sS]
      refine gE 7 rfl (by kernel_rfl) (fun K hK => ?_)
      refine wp_app_NV (w0 := wb) (base := wb.heap.size) _ _ 55 rfl Tryz.underlying55 infoDt rfl (by decide) rfl (l := [.slice (some ⟨b, o, none⟩) xn xc]) (m := 1) (by exact ownsRow_later hown1 (inferInstance : Later w11 _)) inferInstance (Nat.le_refl _) (Later.size (w := wb) inferInstance) rfl rfl (lit1_cells (t := 76) (by first | exact h6 | exact heap_new (by simp))) (fun u hu => by rw [List.mem_singleton.1 hu]; rfl) (by omega) ?_; intro v2 w12 hown2 hX2' hG2; have hX2w : Later w w12 := hww.trans hX2'
      refine hK.out _ _ (by exact ⟨inferInstance, inferInstance⟩) (fun hHeld => ?_)
      try simp only [Act.put, sA, sZ, sS]
      refine gE 11 rfl (by kernel_rfl) (fun K hK => ?_)
      refine wp_app_NV (w0 := wb) (base := wb.heap.size) _ _ 55 rfl Tryz.underlying55 infoDt rfl (by decide) rfl (by exact ownsRow_later hown2 (inferInstance : Later w12 _)) inferInstance (Nat.le_refl _) (Later.size (w := wb) inferInstance) rfl HBL.out (HBC.out _) HBO.out (by omega) ?_; intro v3 w13 hown3 hX3 hG3; have hX3w : Later w w13 := hww.trans hX3
      refine hK.out _ _ (by exact ⟨inferInstance, inferInstance⟩) (fun hHeld => ?_)
      try simp only [Act.put, sA, sZ, sS]
      refine gT 12 rfl (by kernel_rfl) (by intro w' hSw; go_simp <;> rfl) hZq hHeld ?_; simp only [Act.put, sA, sZ, sS]
      refine wpAnyH_done (by kernel_rfl) ?_ _
    case' r3x1_2_3_5_8_9_10_6 =>
     go_simp
     skip
     refine hK.out _ _ (by exact ⟨inferInstance, inferInstance⟩) (fun hHeld => ?_)
     try simp only [Act.put, sA, sZ, sS]
     refine gE 0 rfl (by kernel_rfl) (fun K hK => ?_)
     go_simp
     skip
     refine hK.out _ _ (by exact ⟨inferInstance, inferInstance⟩) (fun hHeld => ?_)
     try simp only [Act.put, sA, sZ, sS]
     refine gE 4 rfl (by kernel_rfl) (fun K hK => ?_)
     refine wp_app_NV (w0 := wb) (base := wb.heap.size) _ _ 55 rfl Tryz.underlying55 infoDt rfl (by decide) rfl (v := .slice (some ⟨_, 0, none⟩) 0 0) (own_lit0 (by first | exact heap_new (by simp) | exact (heap_old (by simp)).trans (heap_new (by simp))) (by first | exact h49 | (simp; omega) | omega)) inferInstance (Nat.le_refl _) (Later.size (w := wb) inferInstance) rfl HFL.out (HFC.out _) HFO.out (by omega) ?_; intro v1 w11 hown1 hX1 hG1; have hX1w : Later w w11 := hww.trans hX1; (first | (have h6 : Blk w11 (wr.heap.size + 1) 76 #[.slice (some ⟨b, o, none⟩) xn xc] := grown_blk hG1 (by exact heap_new (by simp)) (fun k hk => by simp [Value.ownBlock] at hk; omega)) | (have h6 : Blk w11 wr.heap.size 76 #[.slice (some ⟨b, o, none⟩) xn xc] := grown_blk hG1 (by exact (heap_old (by simp)).trans (heap_new (by simp))) (fun k hk => by simp [Value.ownBlock] at hk; omega)) | skip)
     refine hK.out _ _ (by exact ⟨inferInstance, inferInstance⟩) (fun hHeld => ?_)
     try simp only [Act.put, sA, sZ, sS]
     refine gE 7 rfl (by kernel_rfl) (fun K hK => ?_)
     refine wp_app_NV (w0 := wb) (base := wb.heap.size) _ _ 55 rfl Tryz.underlying55 infoDt rfl (by decide) rfl (l := [.slice (some ⟨b, o, none⟩) xn xc]) (m := 1) (by exact ownsRow_later hown1 (inferInstance : Later w11 _)) inferInstance (Nat.le_refl _) (Later.size (w := wb) inferInstance) rfl rfl (lit1_cells (t := 76) (by first | exact h6 | exact heap_new (by simp))) (fun u hu => by rw [List.mem_singleton.1 hu]; rfl) (by omega) ?_; intro v2 w12 hown2 hX2' hG2; have hX2w : Later w w12 := hww.trans hX2'
     refine hK.out _ _ (by exact ⟨inferInstance, inferInstance⟩) (fun hHeld => ?_)
     try simp only [Act.put, sA, sZ, sS]
     refine gE 11 rfl (by kernel_rfl) (fun K hK => ?_)
     refine wp_app_NV (w0 := wb) (base := wb.heap.size) _ _ 55 rfl Tryz.underlying55 infoDt rfl (by decide) rfl (by exact ownsRow_later hown2 (inferInstance : Later w12 _)) inferInstance (Nat.le_refl _) (Later.size (w := wb) inferInstance) rfl HBL.out (HBC.out _) HBO.out (by omega) ?_; intro v3 w13 hown3 hX3 hG3; have hX3w : Later w w13 := hww.trans hX3
     refine hK.out _ _ (by exact ⟨inferInstance, inferInstance⟩) (fun hHeld => ?_)
     try simp only [Act.put, sA, sZ, sS]
     refine gT 12 rfl (by kernel_rfl) (by intro w' hSw; go_simp <;> rfl) hZq hHeld ?_; simp only [Act.put, sA, sZ, sS]
     refine wpAnyH_done (by kernel_rfl) ?_ _
    all_goals
     have hle := insK_len (key := keyE) L x
     have hns := HN.out
     have hownE : w13.ownsRow wb.heap.size 76 1 v3 (insK keyE L x).length ((insK keyE L x).map (·.1)) := own_eqD hown3 (by omega) (by rw [HIN.out]; simp [HX1.out])
     obtain ⟨g3, c3, hv3⟩ := own_someD hownE (by omega)
     have HR := Lib.hid (HD.out.put HX1.out HX2.out HXN.out HXD.out hX3w hww.size hownE)
     have HRB : Hid (w.heap.size ≤ wb.heap.size) := Lib.hid hww.size
     have HV3 := Lib.hid hv3
     clear hown1 hown2 hown3 hG1 hG2 hG3 hownE hv3 hle hns
     go_wp2_with fail
     go_ret
     have HD9 := Lib.hid (⟨own_base HR.out.own HRB.out, HR.out.el, HR.out.nd, HR.out.far⟩ : DutS _ w.heap.size _ _ _)
     first
      | exact ⟨v3, g3, c3, rfl, HV3.out, HD9.out.later inferInstance, inferInstance⟩
      | exact ⟨v3, by first | rfl | simp, ⟨g3, c3, HV3.out⟩, HD9.out.later inferInstance, inferInstance⟩
  ·obtain ⟨j, hj⟩ : ∃ j, m = j + 1 := ⟨m - 1, by omega⟩
   obtain ⟨y, hy⟩ : ∃ y, L[j]? = some y := ⟨_, List.getElem?_eq_getElem (by have := HN.out; omega)⟩
   have hym : y ∈ L := List.mem_of_getElem? hy
   obtain ⟨yA, yn, yc, hy1, hy2⟩ := HD.out.el y hym
   have hcy : ∀ W' [Later w W'], W'.cell? ⟨g, j, none⟩ = some (.slice yA yn yc) := fun W' hW' => by have h9 := HCL.out W' j y hy; rw [Nat.zero_add] at h9; rw [h9, hy1]
   obtain ⟨b3, o3, b4, o4, n4, c4, rfl, hyp, hn4, hcy3, hcy4⟩ := dut_key hy2.reads (HPO.out y hym)
   obtain ⟨ky, hky⟩ : ∃ ky, ky = keyD y.2.1 := ⟨_, rfl⟩
   rw [← hky] at hcy4
   have hpk : posK keyE L x m = if kx < ky then posK keyE L x j else m := by rw [hj, posK_at hy, hky, HKX.out]; rfl
   have hj1 : (0 : Int) < (m : Int) := by omega
   have hjw : IntKind.i64.wrap ((m : Int) - 1) = (j : Int) := by rw [IntKind.wrap_i64]; omega
   have hjn : (j : Int) < (n : Int) := by omega
   have hypi : (0 : Int) < (yn : Int) := by omega
   have hn4i : (0 : Int) < (n4 : Int) := by omega
   have hxpi : (0 : Int) < (xn : Int) := by omega
   have hn1i : (0 : Int) < (n1 : Int) := by omega
   have hj0 : (0 : Int) ≤ (j : Int) := by omega
   have hjN : 0 < m := by omega
   have HJ := Lib.hid hj
   by_cases hlt : kx < ky
   ·have HM2 : Hid (posK keyE L x n = posK keyE L x j) := by show _ = _; rw [HM.out, hpk, if_pos hlt]
    clear hpk hky hy hym hy1 hy2 HM hj
    go_wp2_with fail
    refine gO (S := (fun w' => Later wb w' ∧ Later w w' ∧ Later wr w')) (by kernel_rfl) (by exact ⟨inferInstance, inferInstance, inferInstance⟩) (fun _ _ _ _ _ h => h) (fun hHeld hZq => ?_)
    refine gT 0 rfl (by kernel_rfl) (by intro w' hSw; go_simp <;> rfl) hZq hHeld ?_; simp only [Act.put, sA, sZ, sS]
    refine gT 1 rfl (by kernel_rfl) (by intro w' hSw; go_simp <;> rfl) hZq hHeld ?_; simp only [Act.put, sA, sZ, sS]
    refine gT 2 rfl (by kernel_rfl) (by intro w' hSw; go_simp <;> rfl) hZq hHeld ?_; simp only [Act.put, sA, sZ, sS]
    refine gT 3 rfl (by kernel_rfl) (by intro w' hSw; go_simp <;> rfl) hZq hHeld ?_; simp only [Act.put, sA, sZ, sS]
    refine gT 4 rfl (by kernel_rfl) (by intro w' hSw; go_simp <;> rfl) hZq hHeld ?_; simp only [Act.put, sA, sZ, sS]
    refine gT 5 rfl (by kernel_rfl) (by intro w' hSw; go_simp <;> rfl) hZq hHeld ?_; simp only [Act.put, sA, sZ, sS]
    refine gT 6 rfl (by kernel_rfl) (by intro w' hSw; go_simp <;> rfl) hZq hHeld ?_; simp only [Act.put, sA, sZ, sS]
    refine gT 7 rfl (by kernel_rfl) (by intro w' hSw; go_simp <;> rfl) hZq hHeld ?_; simp only [Act.put, sA, sZ, sS]
    refine gT 8 rfl (by kernel_rfl) (by intro w' hSw; go_simp <;> rfl) hZq hHeld ?_; simp only [Act.put, sA, sZ, sS]
    refine gT 9 rfl (by kernel_rfl) (by intro w' hSw; go_simp <;> rfl) hZq hHeld ?_; simp only [Act.put, sA, sZ, sS]
    refine gT 10 rfl (by kernel_rfl) (by intro w' hSw; go_simp <;> rfl) hZq hHeld ?_; simp only [Act.put, sA, sZ, sS]
    refine gT 11 rfl (by kernel_rfl) (by intro w' hSw; go_simp <;> rfl) hZq hHeld ?_; simp only [Act.put, sA, sZ, sS]
    refine gT 12 rfl (by kernel_rfl) (by intro w' hSw; go_simp <;> rfl) hZq hHeld ?_; simp only [Act.put, sA, sZ, sS]
    refine gT 13 rfl (by kernel_rfl) (by intro w' hSw; go_simp <;> rfl) hZq hHeld ?_; simp only [Act.put, sA, sZ, sS]
    refine gT 14 rfl (by kernel_rfl) (by intro w' hSw; go_simp <;> rfl) hZq hHeld ?_; simp only [Act.put, sA, sZ, sS]
    refine gT 15 rfl (by kernel_rfl) (by intro w' hSw; go_simp <;> rfl) hZq hHeld ?_; simp only [Act.put, sA, sZ, sS]
    refine gT 16 rfl (by kernel_rfl) (by intro w' hSw; go_simp <;> rfl) hZq hHeld ?_; simp only [Act.put, sA, sZ, sS]
    refine gT 17 rfl (by kernel_rfl) (by intro w' hSw; go_simp <;> rfl) hZq hHeld ?_; simp only [Act.put, sA, sZ, sS]
    refine gT 18 rfl (by kernel_rfl) (by intro w' hSw; go_simp <;> rfl) hZq hHeld ?_; simp only [Act.put, sA, sZ, sS]
    refine gT 19 rfl (by kernel_rfl) (by intro w' hSw; go_simp <;> rfl) hZq hHeld ?_; simp only [Act.put, sA, sZ, sS]
    refine gT 20 rfl (by kernel_rfl) (by intro w' hSw; go_simp <;> rfl) hZq hHeld ?_; simp only [Act.put, sA, sZ, sS]
    refine wpAnyH_done (by kernel_rfl) ?_ _
    go_wp2
    go_roundw
    case rel => exact ⟨j, by have := HJ.out; omega, by go_num, HM2, inferInstance, inferInstance⟩
    case measure => simp [intOf]; have := HJ.out; omega
   ·have HIN : Hid (insK keyE L x = L.take m ++ x :: L.drop m) := by show _ = _; unfold insK; rw [← HN.out, HM.out, hpk, if_neg hlt]
    clear hpk hky hy hym hy1 hy2 HM hj
    go_wp2_with fail
    refine gO (S := (fun w' => Later wb w' ∧ Later w w' ∧ Later wr w')) (by kernel_rfl) (by exact ⟨inferInstance, inferInstance, inferInstance⟩) (fun _ _ _ _ _ h => h) (fun hHeld hZq => ?_)
    refine gT 0 rfl (by kernel_rfl) (by intro w' hSw; go_simp <;> rfl) hZq hHeld ?_; simp only [Act.put, sA, sZ, sS]
    refine gT 1 rfl (by kernel_rfl) (by intro w' hSw; go_simp <;> rfl) hZq hHeld ?_; simp only [Act.put, sA, sZ, sS]
    refine gT 2 rfl (by kernel_rfl) (by intro w' hSw; go_simp <;> rfl) hZq hHeld ?_; simp only [Act.put, sA, sZ, sS]
    refine gT 3 rfl (by kernel_rfl) (by intro w' hSw; go_simp <;> rfl) hZq hHeld ?_; simp only [Act.put, sA, sZ, sS]
    refine gT 4 rfl (by kernel_rfl) (by intro w' hSw; go_simp <;> rfl) hZq hHeld ?_; simp only [Act.put, sA, sZ, sS]
    refine gT 5 rfl (by kernel_rfl) (by intro w' hSw; go_simp <;> rfl) hZq hHeld ?_; simp only [Act.put, sA, sZ, sS]
    refine gT 6 rfl (by kernel_rfl) (by intro w' hSw; go_simp <;> rfl) hZq hHeld ?_; simp only [Act.put, sA, sZ, sS]
    refine gT 7 rfl (by kernel_rfl) (by intro w' hSw; go_simp <;> rfl) hZq hHeld ?_; simp only [Act.put, sA, sZ, sS]
    refine gT 8 rfl (by kernel_rfl) (by intro w' hSw; go_simp <;> rfl) hZq hHeld ?_; simp only [Act.put, sA, sZ, sS]
    refine gT 9 rfl (by kernel_rfl) (by intro w' hSw; go_simp <;> rfl) hZq hHeld ?_; simp only [Act.put, sA, sZ, sS]
    refine gT 10 rfl (by kernel_rfl) (by intro w' hSw; go_simp <;> rfl) hZq hHeld ?_; simp only [Act.put, sA, sZ, sS]
    refine gT 11 rfl (by kernel_rfl) (by intro w' hSw; go_simp <;> rfl) hZq hHeld ?_; simp only [Act.put, sA, sZ, sS]
    refine gT 12 rfl (by kernel_rfl) (by intro w' hSw; go_simp <;> rfl) hZq hHeld ?_; simp only [Act.put, sA, sZ, sS]
    refine gT 13 rfl (by kernel_rfl) (by intro w' hSw; go_simp <;> rfl) hZq hHeld ?_; simp only [Act.put, sA, sZ, sS]
    refine gT 14 rfl (by kernel_rfl) (by intro w' hSw; go_simp <;> rfl) hZq hHeld ?_; simp only [Act.put, sA, sZ, sS]
    refine gT 15 rfl (by kernel_rfl) (by intro w' hSw; go_simp <;> rfl) hZq hHeld ?_; simp only [Act.put, sA, sZ, sS]
    refine gT 16 rfl (by kernel_rfl) (by intro w' hSw; go_simp <;> rfl) hZq hHeld ?_; simp only [Act.put, sA, sZ, sS]
    refine gT 17 rfl (by kernel_rfl) (by intro w' hSw; go_simp <;> rfl) hZq hHeld ?_; simp only [Act.put, sA, sZ, sS]
    refine gT 18 rfl (by kernel_rfl) (by intro w' hSw; go_simp <;> rfl) hZq hHeld ?_; simp only [Act.put, sA, sZ, sS]
    refine gT 19 rfl (by kernel_rfl) (by intro w' hSw; go_simp <;> rfl) hZq hHeld ?_; simp only [Act.put, sA, sZ, sS]
    refine gT 20 rfl (by kernel_rfl) (by intro w' hSw; go_simp <;> rfl) hZq hHeld ?_; simp only [Act.put, sA, sZ, sS]
    refine wpAnyH_done (by kernel_rfl) ?_ _
    go_wp2_with fail
    have HFL : Hid (((L.take m).map (·.1)).length = m) := Lib.hid (by have := HN.out; simp <;> omega)
    have HFC : Hid (∀ W' [Later w W'] (j : Nat) (u : Value), ((L.take m).map (·.1))[j]? = some u → W'.cell? ⟨g, 0 + j, none⟩ = some u) := Lib.hid fun W' hW' j u hu => by
     rw [List.getElem?_map, Option.map_eq_some_iff] at hu
     obtain ⟨y, hy, rfl⟩ := hu
     rw [List.getElem?_take] at hy
     split at hy
     ·exact HCL.out W' j y hy
     ·cases hy
    have HON : Hid (∀ y, y ∈ L → y.1.oneCell' = true) := Lib.hid fun y hy => by obtain ⟨a1, a2, a3, a4, _⟩ := HD.out.el y hy; rw [a4]; rfl
    have HFO : Hid (∀ u, u ∈ (L.take m).map (·.1) → u.oneCell' = true) := Lib.hid fun u hu => by
     obtain ⟨y, hy, rfl⟩ := List.mem_map.1 hu
     exact HON.out y (List.mem_of_mem_take hy)
    have HBL : Hid (((L.drop m).map (·.1)).length = n - m) := Lib.hid (by have := HN.out; simp; omega)
    have HBO : Hid (∀ u, u ∈ (L.drop m).map (·.1) → u.oneCell' = true) := Lib.hid fun u hu => by
     obtain ⟨y, hy, rfl⟩ := List.mem_map.1 hu
     exact HON.out y (List.mem_of_mem_drop hy)
    have hmi : ((m : Nat) : Int) ≤ n := by omega
    have hmcap : ((m : Nat) : Int) ≤ cap := by omega
    by_cases hcm : cap = m
    ·have HBC : Hid (∀ W' [Later w W'] (j : Nat) (u : Value), ((L.drop m).map (·.1))[j]? = some u → W'.cell? ⟨g, 0 + j, none⟩ = some u) := Lib.hid fun W' hW' j u hu => by rw [List.drop_eq_nil_of_le (by have := HN.out; omega)] at hu; simp at hu
     clear HBL
     have HBL : Hid (((L.drop m).map (·.1)).length = 0) := Lib.hid (by rw [List.length_map, List.length_drop]; have := HN.out; omega)
     subst hcm
     have h49 := Later.size (w := wb) (W := wr) inferInstance
     refine gO (S := (fun w' => Later wb w' ∧ Later w w')) (by kernel_rfl) (by exact ⟨inferInstance, inferInstance⟩) (fun _ _ _ _ _ h => h) (fun hHeld hZq => ?_)
     refine gT 1 rfl (by kernel_rfl) (by intro w' hSw; go_simp <;> rfl) hZq hHeld ?_; simp only [Act.put, sA, sZ, sS]
     refine gT 2 rfl (by kernel_rfl) (by intro w' hSw; go_simp <;> rfl) hZq hHeld ?_; simp only [Act.put, sA, sZ, sS]
     refine gT 3 rfl (by kernel_rfl) (by intro w' hSw; go_simp <;> rfl) hZq hHeld ?_; simp only [Act.put, sA, sZ, sS]
     refine gT 5 rfl (by kernel_rfl) (by intro w' hSw; go_simp <;> rfl) hZq hHeld ?_; simp only [Act.put, sA, sZ, sS]
     refine gT 8 rfl (by kernel_rfl) (by intro w' hSw; go_simp <;> rfl) hZq hHeld ?_; simp only [Act.put, sA, sZ, sS]
     refine gT 9 rfl (by kernel_rfl) (by intro w' hSw; go_simp <;> rfl) hZq hHeld ?_; simp only [Act.put, sA, sZ, sS]
     refine gT 10 rfl (by kernel_rfl) (by intro w' hSw; go_simp <;> rfl) hZq hHeld ?_; simp only [Act.put, sA, sZ, sS]
     refine wpAnyH_ready (rs := [0, 6]) (by kernel_rfl) (by simp) (AllReadyH.cons rfl (fun K hK => ?r6x1_2_3_5_8_9_10_0) (AllReadyH.cons rfl (fun K hK => ?r6x1_2_3_5_8_9_10_6) AllReadyH.nil))
     case' r6x1_2_3_5_8_9_10_0 =>
      go_simp
      skip
      refine hK.out _ _ (by exact ⟨inferInstance, inferInstance⟩) (fun hHeld => ?_)
      try simp only [Act.put, sA, sZ, sS]
      refine wpAnyH_ready (rs := [4, 6]) (by kernel_rfl) (by simp) (AllReadyH.cons rfl (fun K hK => ?r6x0_1_2_3_5_8_9_10_4) (AllReadyH.cons rfl (fun K hK => ?r6x0_1_2_3_5_8_9_10_6) AllReadyH.nil))
      case' r6x0_1_2_3_5_8_9_10_4 =>
       refine wp_app_NV (w0 := wb) (base := wb.heap.size) _ _ 55 rfl Tryz.underlying55 infoDt rfl (by decide) rfl (v := .slice (some ⟨_, 0, none⟩) 0 0) (own_lit0 (by first | exact heap_new (by simp) | exact (heap_old (by simp)).trans (heap_new (by simp))) (by first | exact h49 | (simp; omega) | omega)) inferInstance (Nat.le_refl _) (Later.size (w := wb) inferInstance) rfl HFL.out (HFC.out _) HFO.out (by omega) ?_; intro v1 w11 hown1 hX1 hG1; have hX1w : Later w w11 := hww.trans hX1; (first | (have h6 : Blk w11 (wr.heap.size + 1) 76 #[.slice (some ⟨b, o, none⟩) xn xc] := grown_blk hG1 (by exact heap_new (by simp)) (fun k hk => by simp [Value.ownBlock] at hk; omega)) | (have h6 : Blk w11 wr.heap.size 76 #[.slice (some ⟨b, o, none⟩) xn xc] := grown_blk hG1 (by exact (heap_old (by simp)).trans (heap_new (by simp))) (fun k hk => by simp [Value.ownBlock] at hk; omega)) | skip)
       refine hK.out _ _ (by exact ⟨inferInstance, inferInstance⟩) (fun hHeld => ?_)
       try simp only [Act.put, sA, sZ, sS]
       refine gE 6 rfl (by kernel_rfl) (fun K hK => ?_)
       go_simp
       skip
       refine hK.out _ _ (by exact ⟨inferInstance, inferInstance⟩) (fun hHeld => ?_)
       try simp only [Act.put, sA, sZ, sS]
       refine gE 7 rfl (by kernel_rfl) (fun K hK => ?_)
       refine wp_app_NV (w0 := wb) (base := wb.heap.size) _ _ 55 rfl Tryz.underlying55 infoDt rfl (by decide) rfl (l := [.slice (some ⟨b, o, none⟩) xn xc]) (m := 1) (by exact ownsRow_later hown1 (inferInstance : Later w11 _)) inferInstance (Nat.le_refl _) (Later.size (w := wb) inferInstance) rfl rfl (lit1_cells (t := 76) (by first | exact h6 | exact heap_new (by simp))) (fun u hu => by rw [List.mem_singleton.1 hu]; rfl) (by omega) ?_; intro v2 w12 hown2 hX2' hG2; have hX2w : Later w w12 := hww.trans hX2'
       refine hK.out _ _ (by exact ⟨inferInstance, inferInstance⟩) (fun hHeld => ?_)
       try simp only [Act.put, sA, sZ, sS]
       refine gE 11 rfl (by kernel_rfl) (fun K hK => ?_)
       refine wp_app_NV (w0 := wb) (base := wb.heap.size) _ _ 55 rfl Tryz.underlying55 infoDt rfl (by decide) rfl (by exact ownsRow_later hown2 (inferInstance : Later w12 _)) inferInstance (Nat.le_refl _) (Later.size (w := wb) inferInstance) rfl HBL.out (HBC.out _) HBO.out (by omega) ?_; intro v3 w13 hown3 hX3 hG3; have hX3w : Later w w13 := hww.trans hX3
       refine hK.out _ _ (by exact ⟨inferInstance, inferInstance⟩) (fun hHeld => ?_)
       try simp only [Act.put, sA, sZ, sS]
       refine gT 12 rfl (by kernel_rfl) (by intro w' hSw; go_simp <;> rfl) hZq hHeld ?_; simp only [Act.put, sA, sZ, sS]
       refine wpAnyH_done (by kernel_rfl) ?_ _
      case' r6x0_1_2_3_5_8_9_10_6 =>
       go_simp
       skip
       refine hK.out _ _ (by exact ⟨inferInstance, inferInstance⟩) (fun hHeld => ?_)
       try simp only [Act.put, sA, sZ, sS]
       refine gE 4 rfl (by kernel_rfl) (fun K hK => ?_)
       refine wp_app_NV (w0 := wb) (base := wb.heap.size) _ _ 55 rfl Tryz.underlying55 infoDt rfl (by decide) rfl (v := .slice (some ⟨_, 0, none⟩) 0 0) (own_lit0 (by first | exact heap_new (by simp) | exact (heap_old (by simp)).trans (heap_new (by simp))) (by first | exact h49 | (simp; omega) | omega)) inferInstance (Nat.le_refl _) (Later.size (w := wb) inferInstance) rfl HFL.out (HFC.out _) HFO.out (by omega) ?_; intro v1 w11 hown1 hX1 hG1; have hX1w : Later w w11 := hww.trans hX1; (first | (have h6 : Blk w11 (wr.heap.size + 1) 76 #[.slice (some ⟨b, o, none⟩) xn xc] := grown_blk hG1 (by exact heap_new (by simp)) (fun k hk => by simp [Value.ownBlock] at hk; omega)) | (have h6 : Blk w11 wr.heap.size 76 #[.slice (some ⟨b, o, none⟩) xn xc] := grown_blk hG1 (by exact (heap_old (by simp)).trans (heap_new (by simp))) (fun k hk => by simp [Value.ownBlock] at hk; omega)) | skip)
       refine hK.out _ _ (by exact ⟨inferInstance, inferInstance⟩) (fun hHeld => ?_)
       try simp only [Act.put, sA, sZ, sS]
       refine gE 7 rfl (by kernel_rfl) (fun K hK => ?_)
       refine wp_app_NV (w0 := wb) (base := wb.heap.size) _ _ 55 rfl Tryz.underlying55 infoDt rfl (by decide) rfl (l := [.slice (some ⟨b, o, none⟩) xn xc]) (m := 1) (by exact ownsRow_later hown1 (inferInstance : Later w11 _)) inferInstance (Nat.le_refl _) (Later.size (w := wb) inferInstance) rfl rfl (lit1_cells (t := 76) (by first | exact h6 | exact heap_new (by simp))) (fun u hu => by rw [List.mem_singleton.1 hu]; rfl) (by omega) ?_; intro v2 w12 hown2 hX2' hG2; have hX2w : Later w w12 := hww.trans hX2'
       refine hK.out _ _ (by exact ⟨inferInstance, inferInstance⟩) (fun hHeld => ?_)
       try simp only [Act.put, sA, sZ, sS]
       refine gE 11 rfl (by kernel_rfl) (fun K hK => ?_)
       refine wp_app_NV (w0 := wb) (base := wb.heap.size) _ _ 55 rfl Tryz.underlying55 infoDt rfl (by decide) rfl (by exact ownsRow_later hown2 (inferInstance : Later w12 _)) inferInstance (Nat.le_refl _) (Later.size (w := wb) inferInstance) rfl HBL.out (HBC.out _) HBO.out (by omega) ?_; intro v3 w13 hown3 hX3 hG3; have hX3w : Later w w13 := hww.trans hX3
       refine hK.out _ _ (by exact ⟨inferInstance, inferInstance⟩) (fun hHeld => ?_)
       try simp only [Act.put, sA, sZ, sS]
       refine gT 12 rfl (by kernel_rfl) (by intro w' hSw; go_simp <;> rfl) hZq hHeld ?_; simp only [Act.put, sA, sZ, sS]
       refine wpAnyH_done (by kernel_rfl) ?_ _
     case' r6x1_2_3_5_8_9_10_6 =>
      go_simp
      skip
      refine hK.out _ _ (by exact ⟨inferInstance, inferInstance⟩) (fun hHeld => ?_)
      try simp only [Act.put, sA, sZ, sS]
      refine gE 0 rfl (by kernel_rfl) (fun K hK => ?_)
      go_simp
      skip
      refine hK.out _ _ (by exact ⟨inferInstance, inferInstance⟩) (fun hHeld => ?_)
      try simp only [Act.put, sA, sZ, sS]
      refine gE 4 rfl (by kernel_rfl) (fun K hK => ?_)
      refine wp_app_NV (w0 := wb) (base := wb.heap.size) _ _ 55 rfl Tryz.underlying55 infoDt rfl (by decide) rfl (v := .slice (some ⟨_, 0, none⟩) 0 0) (own_lit0 (by first | exact heap_new (by simp) | exact (heap_old (by simp)).trans (heap_new (by simp))) (by first | exact h49 | (simp; omega) | omega)) inferInstance (Nat.le_refl _) (Later.size (w := wb) inferInstance) rfl HFL.out (HFC.out _) HFO.out (by omega) ?_; intro v1 w11 hown1 hX1 hG1; have hX1w : Later w w11 := hww.trans hX1; (first | (have h6 : Blk w11 (wr.heap.size + 1) 76 #[.slice (some ⟨b, o, none⟩) xn xc] := grown_blk hG1 (by exact heap_new (by simp)) (fun k hk => by simp [Value.ownBlock] at hk; omega)) | (have h6 : Blk w11 wr.heap.size 76 #[.slice (some ⟨b, o, none⟩) xn xc] := grown_blk hG1 (by exact (heap_old (by simp)).trans (heap_new (by simp))) (fun k hk => by simp [Value.ownBlock] at hk; omega)) | skip)
      refine hK.out _ _ (by exact ⟨inferInstance, inferInstance⟩) (fun hHeld => ?_)
      try simp only [Act.put, sA, sZ, sS]
      refine gE 7 rfl (by kernel_rfl) (fun K hK => ?_)
      refine wp_app_NV (w0 := wb) (base := wb.heap.size) _ _ 55 rfl Tryz.underlying55 infoDt rfl (by decide) rfl (l := [.slice (some ⟨b, o, none⟩) xn xc]) (m := 1) (by exact ownsRow_later hown1 (inferInstance : Later w11 _)) inferInstance (Nat.le_refl _) (Later.size (w := wb) inferInstance) rfl rfl (lit1_cells (t := 76) (by first | exact h6 | exact heap_new (by simp))) (fun u hu => by rw [List.mem_singleton.1 hu]; rfl) (by omega) ?_; intro v2 w12 hown2 hX2' hG2; have hX2w : Later w w12 := hww.trans hX2'
      refine hK.out _ _ (by exact ⟨inferInstance, inferInstance⟩) (fun hHeld => ?_)
      try simp only [Act.put, sA, sZ, sS]
      refine gE 11 rfl (by kernel_rfl) (fun K hK => ?_)
      refine wp_app_NV (w0 := wb) (base := wb.heap.size) _ _ 55 rfl Tryz.underlying55 infoDt rfl (by decide) rfl (by exact ownsRow_later hown2 (inferInstance : Later w12 _)) inferInstance (Nat.le_refl _) (Later.size (w := wb) inferInstance) rfl HBL.out (HBC.out _) HBO.out (by omega) ?_; intro v3 w13 hown3 hX3 hG3; have hX3w : Later w w13 := hww.trans hX3
      refine hK.out _ _ (by exact ⟨inferInstance, inferInstance⟩) (fun hHeld => ?_)
      try simp only [Act.put, sA, sZ, sS]
      refine gT 12 rfl (by kernel_rfl) (by intro w' hSw; go_simp <;> rfl) hZq hHeld ?_; simp only [Act.put, sA, sZ, sS]
      refine wpAnyH_done (by kernel_rfl) ?_ _
     all_goals
      have hle := insK_len (key := keyE) L x
      have hns := HN.out
      have hownE : w13.ownsRow wb.heap.size 76 1 v3 (insK keyE L x).length ((insK keyE L x).map (·.1)) := own_eqD hown3 (by omega) (by rw [HIN.out]; simp [HX1.out])
      obtain ⟨g3, c3, hv3⟩ := own_someD hownE (by omega)
      have HR := Lib.hid (HD.out.put HX1.out HX2.out HXN.out HXD.out hX3w hww.size hownE)
      have HRB : Hid (w.heap.size ≤ wb.heap.size) := Lib.hid hww.size
      have HV3 := Lib.hid hv3
      clear hown1 hown2 hown3 hG1 hG2 hG3 hownE hv3 hle hns
      go_wp2_with fail
      go_ret
      have HD9 := Lib.hid (⟨own_base HR.out.own HRB.out, HR.out.el, HR.out.nd, HR.out.far⟩ : DutS _ w.heap.size _ _ _)
      first
       | exact ⟨v3, g3, c3, rfl, HV3.out, HD9.out.later inferInstance, inferInstance⟩
       | exact ⟨v3, by first | rfl | simp, ⟨g3, c3, HV3.out⟩, HD9.out.later inferInstance, inferInstance⟩
    ·have HBC : Hid (∀ W' [Later w W'] (j : Nat) (u : Value), ((L.drop m).map (·.1))[j]? = some u → W'.cell? ⟨g, m + j, none⟩ = some u) := Lib.hid fun W' hW' j u hu => by
      rw [List.getElem?_map, Option.map_eq_some_iff] at hu
      obtain ⟨y, hy, rfl⟩ := hu
      rw [List.getElem?_drop] at hy
      have := HCL.out W' (m + j) y hy
      rw [Nat.zero_add] at this
      exact this
     have h49 := Later.size (w := wb) (W := wr) inferInstance
     refine gO (S := (fun w' => Later wb w' ∧ Later w w')) (by kernel_rfl) (by exact ⟨inferInstance, inferInstance⟩) (fun _ _ _ _ _ h => h) (fun hHeld hZq => ?_)
     refine gT 1 rfl (by kernel_rfl) (by intro w' hSw; go_simp <;> rfl) hZq hHeld ?_; simp only [Act.put, sA, sZ, sS]
     refine gT 2 rfl (by kernel_rfl) (by intro w' hSw; go_simp <;> rfl) hZq hHeld ?_; simp only [Act.put, sA, sZ, sS]
     refine gT 3 rfl (by kernel_rfl) (by intro w' hSw; go_simp <;> rfl) hZq hHeld ?_; simp only [Act.put, sA, sZ, sS]
     refine gT 5 rfl (by kernel_rfl) (by intro w' hSw; go_simp <;> rfl) hZq hHeld ?_; simp only [Act.put, sA, sZ, sS]
     refine gT 8 rfl (by kernel_rfl) (by intro w' hSw; go_simp <;> rfl) hZq hHeld ?_; simp only [Act.put, sA, sZ, sS]
     refine gT 9 rfl (by kernel_rfl) (by intro w' hSw; go_simp <;> rfl) hZq hHeld ?_; simp only [Act.put, sA, sZ, sS]
     refine gT 10 rfl (by kernel_rfl) (by intro w' hSw; go_simp <;> rfl) hZq hHeld ?_; simp only [Act.put, sA, sZ, sS]
     refine wpAnyH_ready (rs := [0, 6]) (by kernel_rfl) (by simp) (AllReadyH.cons rfl (fun K hK => ?r7x1_2_3_5_8_9_10_0) (AllReadyH.cons rfl (fun K hK => ?r7x1_2_3_5_8_9_10_6) AllReadyH.nil))
     case' r7x1_2_3_5_8_9_10_0 =>
      go_simp
      skip
      refine hK.out _ _ (by exact ⟨inferInstance, inferInstance⟩) (fun hHeld => ?_)
      try simp only [Act.put, sA, sZ, sS]
      refine wpAnyH_ready (rs := [4, 6]) (by kernel_rfl) (by simp) (AllReadyH.cons rfl (fun K hK => ?r7x0_1_2_3_5_8_9_10_4) (AllReadyH.cons rfl (fun K hK => ?r7x0_1_2_3_5_8_9_10_6) AllReadyH.nil))
      case' r7x0_1_2_3_5_8_9_10_4 =>
       refine wp_app_NV (w0 := wb) (base := wb.heap.size) _ _ 55 rfl Tryz.underlying55 infoDt rfl (by decide) rfl (v := .slice (some ⟨_, 0, none⟩) 0 0) (own_lit0 (by first | exact heap_new (by simp) | exact (heap_old (by simp)).trans (heap_new (by simp))) (by first | exact h49 | (simp; omega) | omega)) inferInstance (Nat.le_refl _) (Later.size (w := wb) inferInstance) rfl HFL.out (HFC.out _) HFO.out (by omega) ?_; intro v1 w11 hown1 hX1 hG1; have hX1w : Later w w11 := hww.trans hX1; (first | (have h6 : Blk w11 (wr.heap.size + 1) 76 #[.slice (some ⟨b, o, none⟩) xn xc] := grown_blk hG1 (by exact heap_new (by simp)) (fun k hk => by simp [Value.ownBlock] at hk; omega)) | (have h6 : Blk w11 wr.heap.size 76 #[.slice (some ⟨b, o, none⟩) xn xc] := grown_blk hG1 (by exact (heap_old (by simp)).trans (heap_new (by simp))) (fun k hk => by simp [Value.ownBlock] at hk; omega)) | skip)
       refine hK.out _ _ (by exact ⟨inferInstance, inferInstance⟩) (fun hHeld => ?_)
       try simp only [Act.put, sA, sZ, sS]
       refine gE 6 rfl (by kernel_rfl) (fun K hK => ?_)
       go_simp
       skip
       refine hK.out _ _ (by exact ⟨inferInstance, inferInstance⟩) (fun hHeld => ?_)
       try simp only [Act.put, sA, sZ, sS]
       refine gE 7 rfl (by kernel_rfl) (fun K hK => ?_)
       refine wp_app_NV (w0 := wb) (base := wb.heap.size) _ _ 55 rfl Tryz.underlying55 infoDt rfl (by decide) rfl (l := [.slice (some ⟨b, o, none⟩) xn xc]) (m := 1) (by exact ownsRow_later hown1 (inferInstance : Later w11 _)) inferInstance (Nat.le_refl _) (Later.size (w := wb) inferInstance) rfl rfl (lit1_cells (t := 76) (by first | exact h6 | exact heap_new (by simp))) (fun u hu => by rw [List.mem_singleton.1 hu]; rfl) (by omega) ?_; intro v2 w12 hown2 hX2' hG2; have hX2w : Later w w12 := hww.trans hX2'
       refine hK.out _ _ (by exact ⟨inferInstance, inferInstance⟩) (fun hHeld => ?_)
       try simp only [Act.put, sA, sZ, sS]
       refine gE 11 rfl (by kernel_rfl) (fun K hK => ?_)
       refine wp_app_NV (w0 := wb) (base := wb.heap.size) _ _ 55 rfl Tryz.underlying55 infoDt rfl (by decide) rfl (by exact ownsRow_later hown2 (inferInstance : Later w12 _)) inferInstance (Nat.le_refl _) (Later.size (w := wb) inferInstance) rfl HBL.out (HBC.out _) HBO.out (by omega) ?_; intro v3 w13 hown3 hX3 hG3; have hX3w : Later w w13 := hww.trans hX3
       refine hK.out _ _ (by exact ⟨inferInstance, inferInstance⟩) (fun hHeld => ?_)
       try simp only [Act.put, sA, sZ, sS]
       refine gT 12 rfl (by kernel_rfl) (by intro w' hSw; go_simp <;> rfl) hZq hHeld ?_; simp only [Act.put, sA, sZ, sS]
       refine wpAnyH_done (by kernel_rfl) ?_ _
      case' r7x0_1_2_3_5_8_9_10_6 =>
       go_simp
       skip
       refine hK.out _ _ (by exact ⟨inferInstance, inferInstance⟩) (fun hHeld => ?_)
       try simp only [Act.put, sA, sZ, sS]
       refine gE 4 rfl (by kernel_rfl) (fun K hK => ?_)
       refine wp_app_NV (w0 := wb) (base := wb.heap.size) _ _ 55 rfl Tryz.underlying55 infoDt rfl (by decide) rfl (v := .slice (some ⟨_, 0, none⟩) 0 0) (own_lit0 (by first | exact heap_new (by simp) | exact (heap_old (by simp)).trans (heap_new (by simp))) (by first | exact h49 | (simp; omega) | omega)) inferInstance (Nat.le_refl _) (Later.size (w := wb) inferInstance) rfl HFL.out (HFC.out _) HFO.out (by omega) ?_; intro v1 w11 hown1 hX1 hG1; have hX1w : Later w w11 := hww.trans hX1; (first | (have h6 : Blk w11 (wr.heap.size + 1) 76 #[.slice (some ⟨b, o, none⟩) xn xc] := grown_blk hG1 (by exact heap_new (by simp)) (fun k hk => by simp [Value.ownBlock] at hk; omega)) | (have h6 : Blk w11 wr.heap.size 76 #[.slice (some ⟨b, o, none⟩) xn xc] := grown_blk hG1 (by exact (heap_old (by simp)).trans (heap_new (by simp))) (fun k hk => by simp [Value.ownBlock] at hk; omega)) | skip)
       refine hK.out _ _ (by exact ⟨inferInstance, inferInstance⟩) (fun hHeld => ?_)
       try simp only [Act.put, sA, sZ, sS]
       refine gE 7 rfl (by kernel_rfl) (fun K hK => ?_)
       refine wp_app_NV (w0 := wb) (base := wb.heap.size) _ _ 55 rfl Tryz.underlying55 infoDt rfl (by decide) rfl (l := [.slice (some ⟨b, o, none⟩) xn xc]) (m := 1) (by exact ownsRow_later hown1 (inferInstance : Later w11 _)) inferInstance (Nat.le_refl _) (Later.size (w := wb) inferInstance) rfl rfl (lit1_cells (t := 76) (by first | exact h6 | exact heap_new (by simp))) (fun u hu => by rw [List.mem_singleton.1 hu]; rfl) (by omega) ?_; intro v2 w12 hown2 hX2' hG2; have hX2w : Later w w12 := hww.trans hX2'
       refine hK.out _ _ (by exact ⟨inferInstance, inferInstance⟩) (fun hHeld => ?_)
       try simp only [Act.put, sA, sZ, sS]
       refine gE 11 rfl (by kernel_rfl) (fun K hK => ?_)
       refine wp_app_NV (w0 := wb) (base := wb.heap.size) _ _ 55 rfl Tryz.underlying55 infoDt rfl (by decide) rfl (by exact ownsRow_later hown2 (inferInstance : Later w12 _)) inferInstance (Nat.le_refl _) (Later.size (w := wb) inferInstance) rfl HBL.out (HBC.out _) HBO.out (by omega) ?_; intro v3 w13 hown3 hX3 hG3; have hX3w : Later w w13 := hww.trans hX3
       refine hK.out _ _ (by exact ⟨inferInstance, inferInstance⟩) (fun hHeld => ?_)
       try simp only [Act.put, sA, sZ, sS]
       refine gT 12 rfl (by kernel_rfl) (by intro w' hSw; go_simp <;> rfl) hZq hHeld ?_; simp only [Act.put, sA, sZ, sS]
       refine wpAnyH_done (by kernel_rfl) ?_ _
     case' r7x1_2_3_5_8_9_10_6 =>
      go_simp
      skip
      refine hK.out _ _ (by exact ⟨inferInstance, inferInstance⟩) (fun hHeld => ?_)
      try simp only [Act.put, sA, sZ, sS]
      refine gE 0 rfl (by kernel_rfl) (fun K hK => ?_)
      go_simp
      skip
      refine hK.out _ _ (by exact ⟨inferInstance, inferInstance⟩) (fun hHeld => ?_)
      try simp only [Act.put, sA, sZ, sS]
      refine gE 4 rfl (by kernel_rfl) (fun K hK => ?_)
      refine wp_app_NV (w0 := wb) (base := wb.heap.size) _ _ 55 rfl Tryz.underlying55 infoDt rfl (by decide) rfl (v := .slice (some ⟨_, 0, none⟩) 0 0) (own_lit0 (by first | exact heap_new (by simp) | exact (heap_old (by simp)).trans (heap_new (by simp))) (by first | exact h49 | (simp; omega) | omega)) inferInstance (Nat.le_refl _) (Later.size (w := wb) inferInstance) rfl HFL.out (HFC.out _) HFO.out (by omega) ?_; intro v1 w11 hown1 hX1 hG1; have hX1w : Later w w11 := hww.trans hX1; (first | (have h6 : Blk w11 (wr.heap.size + 1) 76 #[.slice (some ⟨b, o, none⟩) xn xc] := grown_blk hG1 (by exact heap_new (by simp)) (fun k hk => by simp [Value.ownBlock] at hk; omega)) | (have h6 : Blk w11 wr.heap.size 76 #[.slice (some ⟨b, o, none⟩) xn xc] := grown_blk hG1 (by exact (heap_old (by simp)).trans (heap_new (by simp))) (fun k hk => by simp [Value.ownBlock] at hk; omega)) | skip)
      refine hK.out _ _ (by exact ⟨inferInstance, inferInstance⟩) (fun hHeld => ?_)
      try simp only [Act.put, sA, sZ, sS]
      refine gE 7 rfl (by kernel_rfl) (fun K hK => ?_)
      refine wp_app_NV (w0 := wb) (base := wb.heap.size) _ _ 55 rfl Tryz.underlying55 infoDt rfl (by decide) rfl (l := [.slice (some ⟨b, o, none⟩) xn xc]) (m := 1) (by exact ownsRow_later hown1 (inferInstance : Later w11 _)) inferInstance (Nat.le_refl _) (Later.size (w := wb) inferInstance) rfl rfl (lit1_cells (t := 76) (by first | exact h6 | exact heap_new (by simp))) (fun u hu => by rw [List.mem_singleton.1 hu]; rfl) (by omega) ?_; intro v2 w12 hown2 hX2' hG2; have hX2w : Later w w12 := hww.trans hX2'
      refine hK.out _ _ (by exact ⟨inferInstance, inferInstance⟩) (fun hHeld => ?_)
      try simp only [Act.put, sA, sZ, sS]
      refine gE 11 rfl (by kernel_rfl) (fun K hK => ?_)
      refine wp_app_NV (w0 := wb) (base := wb.heap.size) _ _ 55 rfl Tryz.underlying55 infoDt rfl (by decide) rfl (by exact ownsRow_later hown2 (inferInstance : Later w12 _)) inferInstance (Nat.le_refl _) (Later.size (w := wb) inferInstance) rfl HBL.out (HBC.out _) HBO.out (by omega) ?_; intro v3 w13 hown3 hX3 hG3; have hX3w : Later w w13 := hww.trans hX3
      refine hK.out _ _ (by exact ⟨inferInstance, inferInstance⟩) (fun hHeld => ?_)
      try simp only [Act.put, sA, sZ, sS]
      refine gT 12 rfl (by kernel_rfl) (by intro w' hSw; go_simp <;> rfl) hZq hHeld ?_; simp only [Act.put, sA, sZ, sS]
      refine wpAnyH_done (by kernel_rfl) ?_ _
     all_goals
      have hle := insK_len (key := keyE) L x
      have hns := HN.out
      have hownE : w13.ownsRow wb.heap.size 76 1 v3 (insK keyE L x).length ((insK keyE L x).map (·.1)) := own_eqD hown3 (by omega) (by rw [HIN.out]; simp [HX1.out])
      obtain ⟨g3, c3, hv3⟩ := own_someD hownE (by omega)
      have HR := Lib.hid (HD.out.put HX1.out HX2.out HXN.out HXD.out hX3w hww.size hownE)
      have HRB : Hid (w.heap.size ≤ wb.heap.size) := Lib.hid hww.size
      have HV3 := Lib.hid hv3
      clear hown1 hown2 hown3 hG1 hG2 hG3 hownE hv3 hle hns
      go_wp2_with fail
      go_ret
      have HD9 := Lib.hid (⟨own_base HR.out.own HRB.out, HR.out.el, HR.out.nd, HR.out.far⟩ : DutS _ w.heap.size _ _ _)
      first
       | exact ⟨v3, g3, c3, rfl, HV3.out, HD9.out.later inferInstance, inferInstance⟩
       | exact ⟨v3, by first | rfl | simp, ⟨g3, c3, HV3.out⟩, HD9.out.later inferInstance, inferInstance⟩
end Go.Proofs.YtknhebakebmlcaaGreat
