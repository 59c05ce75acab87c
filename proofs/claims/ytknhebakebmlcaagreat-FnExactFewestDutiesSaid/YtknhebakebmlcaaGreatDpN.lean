/-
 FewestDuties: a cutter that is being made, in memory; the price of one duty (newCutter's closure).
-/
import Derived.Test.YtknhebakebmlcaaGreatDpC
import Derived.Test.YtknhebakebmlcaaGreatDpF
namespace Go.Proofs.YtknhebakebmlcaaGreat
open Go Go.RowKit
set_option linter.unusedVariables false
set_option maxRecDepth 100000
set_option linter.unusedSimpArgs false
def prOf (a : Int) : Int × Int := if 0 ≤ a then (1, a) else (nev, 0)
theorem sgP_of (A : Nat → Int) (k : Nat) : sgP A k = prOf (A k) := rfl
theorem prP_of (P : Nat → Nat → Int) (i k : Nat) : prP P i k = prOf (P i k) := rfl
/-- Block g holds n prices, of which the first j are told. -/
def NcRow (ts : TypeId) (n : Nat) (f : Nat → Int × Int) (W : World) (g j : Nat) : Prop := ∃ cs : Array Value, Blk W g ts cs ∧ cs.size = n * 2 ∧ ∀ k, k < j → cs[k * 2]? = some (.int .i64 (f k).1) ∧ cs[k * 2 + 1]? = some (.int .i64 (f k).2)
def NcPtr (tp : TypeId) (n : Nat) (W : World) (gp : Nat) (g : Nat → Nat) (q : Nat) : Prop := ∃ cs : Array Value, Blk W gp tp cs ∧ cs.size = n ∧ ∀ k, k < q → cs[k]? = some (.slice (some ⟨g k, 0, none⟩) n n)
section
variable {ts tp : TypeId} {n : Nat} {f : Nat → Int × Int} {W W' : World} {gi j : Nat} {fp : List Nat}
theorem NcRow.touch (h : NcRow ts n f W gi j) (hT : Touch fp W W') (hg : gi ∉ fp) : NcRow ts n f W' gi j := let ⟨cs, h1, h2⟩ := h; ⟨cs, hT.blk h1 hg, h2⟩
theorem NcRow.later (h : NcRow ts n f W gi j) (hl : Later W W') : NcRow ts n f W' gi j := let ⟨cs, h1, h2⟩ := h; ⟨cs, h1.later hl, h2⟩
theorem NcRow.done (h : NcRow ts n f W gi n) : PrRow W gi n f := let ⟨cs, h1, _, h3⟩ := h; ⟨ts, cs, h1, h3⟩
theorem NcRow.new_ (ts : TypeId) (n : Nat) (f : Nat → Int × Int) (W : World) {C : Array Value} (hC : C.size = n * 2) : NcRow ts n f (W.alloc (.cells C ts)) W.heap.size 0 := ⟨C, Blk.new _ _ _, hC, fun k hk => by omega⟩
theorem NcRow.cells (h : NcRow ts n f W gi j) {k : Nat} (hk : k < n) : ∃ z0 z1, (∀ W' [Later W W'], W'.cell? ⟨gi, k * 2, none⟩ = some z0) ∧ (∀ W' [Later W W'], W'.cell? ⟨gi, k * 2 + 1, none⟩ = some z1) ∧ (∀ (l : Nat) W' [Later W W'], W'.frozen? ⟨gi, l, none⟩ = false) := by
 obtain ⟨cs, h1, h2, h3⟩ := h
 exact ⟨cs[k * 2], cs[k * 2 + 1], fun W' hW' => ((h1.later hW').cell _).trans (Array.getElem?_eq_getElem _), fun W' hW' => ((h1.later hW').cell _).trans (Array.getElem?_eq_getElem _), fun l W' hW' => (h1.later hW').frozen l⟩
/-- Cell k is told anew; what was told stays. -/
theorem NcRow.any (h : NcRow ts n f W gi j) {k : Nat} (hk : j ≤ k) (a b : Int) : NcRow ts n f ((W.setCell ⟨gi, k * 2, none⟩ (.int .i64 a)).setCell ⟨gi, k * 2 + 1, none⟩ (.int .i64 b)) gi j := by
 obtain ⟨cs, h1, h2, h3⟩ := h
 refine ⟨_, (h1.set_ (k * 2) _).set_ (k * 2 + 1) _, by simp [h2], fun l hl => ?_⟩
 rw [set_ne _ (by omega), set_ne _ (by omega), set_ne _ (by omega), set_ne _ (by omega)]
 exact h3 l hl
theorem NcRow.put (h : NcRow ts n f W gi j) (hj : j < n) {a b : Int} (hf : f j = (a, b)) : NcRow ts n f ((W.setCell ⟨gi, j * 2, none⟩ (.int .i64 a)).setCell ⟨gi, j * 2 + 1, none⟩ (.int .i64 b)) gi (j + 1) := by
 obtain ⟨cs, h1, h2, h3⟩ := h
 refine ⟨_, (h1.set_ (j * 2) _).set_ (j * 2 + 1) _, by simp [h2], fun l hl => ?_⟩
 by_cases e : l = j
 ·subst e
  rw [hf, set_ne _ (by omega), set_eq _ (by omega), set_eq _ (by simp; omega)]
  exact ⟨rfl, rfl⟩
 ·rw [set_ne _ (by omega), set_ne _ (by omega), set_ne _ (by omega), set_ne _ (by omega)]
  exact h3 l (by omega)
end
/-- A cutter that is being made: a prices alone, q rows laid, c rows told. -/
structure NcSt (tc ts tp : TypeId) (m : Nat) (A : Nat → Int) (P : Nat → Nat → Int) (pv : Value) (z0 : Nat) (W : World) (gx gs gp b : Nat) (g : Nat → Nat) (a q c : Nat) : Prop where
 x : Blk W gx tc #[pv, .slice (some ⟨gs, 0, none⟩) m m, .slice (some ⟨gp, 0, none⟩) m m, .map (some b)]
 s : NcRow ts m (sgP A) W gs a
 p : NcPtr tp m W gp g q
 r : ∀ i, i < c → NcRow ts m (prP P i) W (g i) m
 xs : gx ≠ gs
 xp : gx ≠ gp
 sp : gs ≠ gp
 bx : gx ≠ b
 bs : gs ≠ b
 bp : gp ≠ b
 hx : gx < z0
 hs : gs < z0
 hp : gp < z0
 hb : b < z0
 hg : ∀ i, i < q → z0 ≤ g i
 inj : ∀ i k, i < k → k < q → g i < g k
 cq : c ≤ q
section
variable {tc ts tp : TypeId} {m : Nat} {A : Nat → Int} {P : Nat → Nat → Int} {pv : Value} {z0 : Nat} {W W' : World} {gx gs gp b : Nat} {g : Nat → Nat} {a q c : Nat}
theorem NcSt.touch {fp : List Nat} (h : NcSt tc ts tp m A P pv z0 W gx gs gp b g a q c) (hT : Touch fp W W') (hf : ∀ z, z ∈ fp → z0 ≤ z ∧ ∀ i, i < c → g i ≠ z) : NcSt tc ts tp m A P pv z0 W' gx gs gp b g a q c := by
 have key : ∀ z, z < z0 → z ∉ fp := fun z h1 h2 => by have := (hf z h2).1; omega
 obtain ⟨cs, p1, p2⟩ := h.p
 exact { h with x := hT.blk h.x (key _ h.hx), s := h.s.touch hT (key _ h.hs), p := ⟨cs, hT.blk p1 (key _ h.hp), p2⟩, r := fun i hi => (h.r i hi).touch hT (fun h2 => (hf _ h2).2 i hi rfl) }
theorem NcSt.later (h : NcSt tc ts tp m A P pv z0 W gx gs gp b g a q c) (hl : Later W W') : NcSt tc ts tp m A P pv z0 W' gx gs gp b g a q c :=
 h.touch (fp := []) (Touch.of_later hl) (by simp)
theorem NcSt.xc (h : NcSt tc ts tp m A P pv z0 W gx gs gp b g a q c) : ∀ W' [Later W W'] (j : Nat), W'.cell? ⟨gx, j, none⟩ = (#[pv, .slice (some ⟨gs, 0, none⟩) m m, .slice (some ⟨gp, 0, none⟩) m m, .map (some b)] : Array Value)[j]? := fun W' hW' j => (h.x.later hW').cell j
theorem NcSt.pc (h : NcSt tc ts tp m A P pv z0 W gx gs gp b g a q c) {i : Nat} (hi : i < m) : ∃ z, (∀ W' [Later W W'], W'.cell? ⟨gp, i, none⟩ = some z) ∧ (∀ (l : Nat) W' [Later W W'], W'.frozen? ⟨gp, l, none⟩ = false) ∧ (i < q → z = .slice (some ⟨g i, 0, none⟩) m m) := by
 obtain ⟨cs, p1, p2, p3⟩ := h.p
 refine ⟨cs[i], fun W' hW' => ((p1.later hW').cell _).trans (Array.getElem?_eq_getElem _), fun l W' hW' => (p1.later hW').frozen l, fun hq => ?_⟩
 have := p3 i hq
 rw [Array.getElem?_eq_getElem (by omega)] at this
 exact Option.some.inj this
theorem NcSt.putS (h : NcSt tc ts tp m A P pv z0 W gx gs gp b g a q c) (ha : a < m) {u v : Int} (hf : sgP A a = (u, v)) : NcSt tc ts tp m A P pv z0 ((W.setCell ⟨gs, a * 2, none⟩ (.int .i64 u)).setCell ⟨gs, a * 2 + 1, none⟩ (.int .i64 v)) gx gs gp b g (a + 1) q c := by
 have hT : Touch [gs] W ((W.setCell ⟨gs, a * 2, none⟩ (.int .i64 u)).setCell ⟨gs, a * 2 + 1, none⟩ (.int .i64 v)) := (Touch.refl_.set_ (by simp) _ _).set_ (by simp) _ _
 obtain ⟨cs, p1, p2⟩ := h.p
 exact { h with x := hT.blk h.x (by simpa using h.xs), s := h.s.put ha hf, p := ⟨cs, hT.blk p1 (by simpa using (Ne.symm h.sp)), p2⟩, r := fun i hi => (h.r i hi).touch hT (by have := h.hg i (Nat.lt_of_lt_of_le hi h.cq); have := h.hs; simp; omega) }
theorem NcSt.putP (h : NcSt tc ts tp m A P pv z0 W gx gs gp b g a q c) (hq : q < m) {C : Array Value} (hC : C.size = m * 2) (h0 : z0 ≤ W.heap.size) (hlt : ∀ i, i < q → g i < W.heap.size) (f : Nat → Int × Int) :
  let W2 := (W.alloc (.cells C ts)).setCell ⟨gp, q, none⟩ (.slice (some ⟨W.heap.size, 0, none⟩) m m)
  NcSt tc ts tp m A P pv z0 W2 gx gs gp b (fun k => if k = q then W.heap.size else g k) a (q + 1) c ∧ NcRow ts m f W2 W.heap.size 0 := by
 intro W2
 have hT : Touch [gp] W W2 := (Touch.of_later (inferInstance : Later W (W.alloc (.cells C ts)))).set_ (by simp) _ _
 obtain ⟨cs, p1, p2, p3⟩ := h.p
 have hr : NcRow ts m f W2 W.heap.size 0 := by
  obtain ⟨cs, c1, c2, c3⟩ := NcRow.new_ ts m f W hC
  exact ⟨cs, c1.far (by show W.heap.size ≠ gp; have := h.hp; omega) _, c2, c3⟩
 refine ⟨{ h with x := hT.blk h.x (by simpa using h.xp), s := h.s.touch hT (by simpa using h.sp), p := ⟨_, (p1.alloc _).set_ q _, by simp [p2], fun k hk => ?_⟩, r := fun i hi => ?_, hg := fun i hi => ?_, inj := fun i k hik hk => ?_, cq := Nat.le_succ_of_le h.cq }, hr⟩
 ·try dsimp only
  by_cases e : k = q
  ·rw [if_pos e, e]; exact set_eq _ (by omega)
  ·rw [if_neg e, set_ne _ e]; exact p3 k (by omega)
 ·have := h.cq
  try dsimp only
  rw [if_neg (by omega)]
  exact (h.r i hi).touch hT (by have := h.hg i (by omega); have := h.hp; simp; omega)
 ·try dsimp only
  by_cases e : i = q
  ·rw [if_pos e]; exact h0
  ·rw [if_neg e]; exact h.hg i (by omega)
 ·try dsimp only
  by_cases e : k = q
  ·rw [if_pos e, if_neg (by omega)]; exact hlt i (by omega)
  ·rw [if_neg e, if_neg (by omega)]; exact h.inj i k hik (by omega)
theorem NcSt.row (h : NcSt tc ts tp m A P pv z0 W gx gs gp b g a (c + 1) c) (hr : NcRow ts m (prP P c) W (g c) m) : NcSt tc ts tp m A P pv z0 W gx gs gp b g a (c + 1) (c + 1) :=
 { h with r := fun i hi => (by
   by_cases e : i = c
   ·subst e; exact hr
   ·exact h.r i (by omega)), cq := Nat.le_refl _ }
theorem NcSt.done (h : NcSt tc ts tp m A P pv z0 W gx gs gp b g m m m) : CutOK tc m A P W pv gx gs gp b g := by
 obtain ⟨cs, p1, _, p3⟩ := h.p
 exact ⟨h.x, h.s.done, ⟨tp, cs, p1, p3⟩, fun i hi => (h.r i hi).done, h.bx, h.bs, h.bp, fun i hi => by have := h.hg i hi; have := h.hb; omega⟩
end
/-- A cutter's blocks, none of them below lo. -/
structure CutNew (lo m gx gs gp b : Nat) (g : Nat → Nat) : Prop where
 x : lo ≤ gx
 s : lo ≤ gs
 p : lo ≤ gp
 b : lo ≤ b
 r : ∀ i, i < m → lo ≤ g i
theorem CutOK.touchN {tc : TypeId} {m : Nat} {A : Nat → Int} {P : Nat → Nat → Int} {W W' : World} {pv : Value} {gx gs gp b lo : Nat} {g : Nat → Nat} {fp : List Nat} (h : CutOK tc m A P W pv gx gs gp b g) (hn : CutNew lo m gx gs gp b g) (hT : Touch fp W W') (hf : ∀ z, z ∈ fp → z = b ∨ z < lo ∨ W.heap.size ≤ z) : CutOK tc m A P W' pv gx gs gp b g := by
 have key : ∀ z, z < W.heap.size → lo ≤ z → z ≠ b → z ∉ fp := fun z h1 h0 h2 h3 => by rcases hf z h3 with e | e | e; exact h2 e; omega; omega
 obtain ⟨t, cs, p1, p2⟩ := h.p
 exact ⟨hT.blk h.x (key _ h.x.lt hn.x h.nx), h.s.touch hT (key _ h.s.lt hn.s h.ns), ⟨t, cs, hT.blk p1 (key _ p1.lt hn.p h.np), p2⟩, fun i hi => (h.r i hi).touch hT (key _ (h.r i hi).lt (hn.r i hi) (h.nr i hi)), h.nx, h.ns, h.np, h.nr⟩
theorem duty_one {W : World} {z : Nat} {t : TypeId} {A : Option Addr} {n c : Nat} {p : List Int} (hb : Blk W z t #[.slice A n c]) (hi : Ints W A n c p) : DutyAt W (some ⟨z, 0, none⟩) 1 1 ⟨[p]⟩ :=
 ⟨⟨rfl, Nat.le_refl _, by omega, fun k x hx => by
  match k, hx with
  | 0, hx =>
   simp at hx; subst hx
   exact ⟨z, 0, [.slice A n c], rfl, rfl, fun j v hv => by
    match j, hv with
    | 0, hv => simp at hv; subst hv; exact hb.cell 0, A, n, c, rfl, hi⟩⟩⟩
theorem duty_two {W : World} {z : Nat} {t : TypeId} {A A' : Option Addr} {n c n' c' : Nat} {p q : List Int} (hb : Blk W z t #[.slice A n c, .slice A' n' c']) (hi : Ints W A n c p) (hi' : Ints W A' n' c' q) : DutyAt W (some ⟨z, 0, none⟩) 2 2 ⟨[p, q]⟩ :=
 ⟨⟨rfl, Nat.le_refl _, by omega, fun k x hx => by
  match k, hx with
  | 0, hx =>
   simp at hx; subst hx
   exact ⟨z, 0, [.slice A n c], rfl, rfl, fun j v hv => by
    match j, hv with
    | 0, hv => simp at hv; subst hv; exact hb.cell 0, A, n, c, rfl, hi⟩
  | 1, hx =>
   simp at hx; subst hx
   exact ⟨z, 0, [.slice A' n' c'], rfl, rfl, fun j v hv => by
    match j, hv with
    | 0, hv => simp at hv; subst hv; exact hb.cell 1, A', n', c', rfl, hi'⟩⟩⟩
set_option maxHeartbeats 2000000 in
theorem impl_cost {w0 w2 w3 w4 wb w : World} {sA0 : Option Addr} {sn0 sc0 : Nat} {sA1 : Option Addr} {sn1 sc1 : Nat} {sA2 : Option Addr} {sn2 sc2 : Nat} {t : Timetable} (h : TimetableAt w0 sA0 sn0 sc0 sA1 sn1 sc1 sA2 sn2 sc2 t) (hl : Later w0 wb) {qA0 : Option Addr} {qn0 qc0 : Nat} {f : Fleet} (h2 : FleetAt w2 qA0 qn0 qc0 f) (hl2 : Later w2 wb) {bA : Option Addr} {bn bc : Nat} {bs : List (List Int)} (h3 : Sl 1 (rSl 1 rInt) w3 bA bn bc bs) (hl3 : Later w3 wb) {r : Rules} {b0 : Nat} (HB0 : ∀ W [Later wb W] (j : Nat), W.cell? ⟨b0, j, none⟩ = #[.slice sA0 sn0 sc0, .slice sA1 sn1 sc1, .slice sA2 sn2 sc2][j]?) (HB1 : ∀ W [Later wb W] (j : Nat), W.cell? ⟨b0 + 1, j, none⟩ = #[.slice qA0 qn0 qc0, .int .i64 f.Turn][j]?) (HB2 : ∀ W [Later wb W] (j : Nat), W.cell? ⟨b0 + 1 + 1, j, none⟩ = #[.slice bA bn bc][j]?) (HB3 : ∀ W [Later wb W] (j : Nat), W.cell? ⟨b0 + 1 + 1 + 1, j, none⟩ = #[.int .i64 r.SignOn, .int .i64 r.SignOff, .int .i64 r.MaxDrive, .int .i64 r.MinBreak, .int .i64 r.PaidBreak, .int .i64 r.MaxLength][j]?) (hlw : Later wb w) (hok : okRuled t f bs r = true) {oA : Option Addr} {on oc : Nat} {d : Duty} (h4 : DutyAt w4 oA on oc d) (hl4 : Later w4 w) (hps : Fits d.Pieces) (hd2 : d.Pieces.length ≤ 2) :
  Calls Tryz.prog 95 #[.slice oA on oc, .pointer (some ⟨b0, 0, none⟩), .pointer (some ⟨b0 + 1, 0, none⟩), .pointer (some ⟨b0 + 1 + 1, 0, none⟩), .pointer (some ⟨b0 + 1 + 1 + 1, 0, none⟩)] w (Ret (.agg #[.int .i64 (prOf (paidOr t f bs r d.Pieces)).1, .int .i64 (prOf (paidOr t f bs r d.Pieces)).2]) w) := by
 have H := Lib.hid h
 have H2 := Lib.hid h2
 have H3 := Lib.hid h3
 have H4 := Lib.hid h4
 have HPS := Lib.hid hps
 have HOK := Lib.hid (okRuled_blocks hok)
 have RR := Lib.hid (okRuled_rules hok)
 obtain ⟨Wa, hWa⟩ : ∃ Wa : World, Wa = w.alloc (.cells #[.int .i64 0, .int .i64 0] 110) := ⟨_, rfl⟩
 obtain ⟨Wd, hWd⟩ : ∃ Wd : World, Wd = Wa.alloc (.cells #[.slice oA on oc] 76) := ⟨_, rfl⟩
 haveI hLa : Later w Wa := by rw [hWa]; infer_instance
 haveI hLd : Later w Wd := by rw [hWd]; infer_instance
 haveI hLb : Later wb Wd := hlw.trans hLd
 have hB : Blk Wd w.heap.size 110 #[.int .i64 0, .int .i64 0] := by rw [hWd, hWa]; exact (Blk.new _ _ _).alloc _
 have hD : Blk Wd (w.heap.size + 1) 76 #[.slice oA on oc] := by rw [hWd, hWa]; have h9 := Blk.new (w.alloc (.cells #[.int .i64 0, .int .i64 0] 110)) 76 #[.slice oA on oc]; simpa using h9
 have hDc : ∀ W' [Later Wd W'] (j : Nat), W'.cell? ⟨w.heap.size + 1, j, none⟩ = (#[.slice oA on oc] : Array Value)[j]? := fun W' hW' j => (hD.later hW').cell j
 have hBby := Lib.hid hB
 by_cases c0 : brokenD t f bs r d.Pieces = 0
 ·have hpd := paidD_in hok c0 hd2
  rw [show paidOr t f bs r d.Pieces = paidD t f r d.Pieces from if_pos c0, show prOf (paidD t f r d.Pieces) = (1, paidD t f r d.Pieces) from if_pos hpd.1]
  have C0 := Lib.hid c0
  have DF := Lib.hid (dutyFacts (t := t) (f := f) (bs := bs) (r := r) (ps := d.Pieces) (by unfold dutyOk; rw [hok, c0]; rfl))
  clear h h2 h3 h4 hps c0 hpd hB hD
  go_enter Tryz.func95, Tryz.ntmps95
  go_wp2_with first
   | (go_at_call 96; rw [← hWa, ← hWd]; clear hWa hWd; refine (impl_brokenRule H.out (hl.trans inferInstance) H2.out (hl2.trans inferInstance) H3.out (hl3.trans inferInstance) H4.out (hl4.trans inferInstance) HOK.out RR.out HPS.out).mono ?_; rw [C0.out]; rintro e w1 ⟨rfl, L1⟩; have X1 := Later.trans (w := wb) inferInstance L1; have Z1 := Later.trans (w := w) inferInstance L1)
   | (go_at_call 97; refine (impl_paidMinutes H.out (hl.trans inferInstance) H2.out (hl2.trans inferInstance) r H4.out (hl4.trans inferInstance) DF.out).mono ?_; rintro e w2 ⟨rfl, L2⟩; have X2 := Later.trans (w := wb) inferInstance L2; have Y2 := Later.trans (w := Wd) L1 L2; have Z2 := Later.trans (w := w) inferInstance L2; have hcr := (hBby.out.later Y2).cell; have hfr := (hBby.out.later Y2).frozen)
  have hB := hBby.out.later Y2
  have HF := (hB.set_ 0 (.int .i64 (1))).set_ 1 (.int .i64 (paidD t f r d.Pieces))
  have hr0 := (HF.cell 0).trans (show _ = some (.int .i64 (1) : Value) from rfl)
  have hr1 := (HF.cell 1).trans (show _ = some (.int .i64 (paidD t f r d.Pieces) : Value) from rfl)
  refine bodyPost_ret (v := .agg #[.int .i64 (1), .int .i64 (paidD t f r d.Pieces)]) (by simp [results, Tryz.results95, go_sem, hr0, hr1]) rfl ?_
  haveI : New w w.heap.size := ⟨Nat.le_refl _⟩
  exact ⟨rfl, inferInstance⟩
 ·rw [show paidOr t f bs r d.Pieces = -1 from if_neg c0, show prOf (-1) = (1073741824, 0) from rfl]
  obtain ⟨z, hz⟩ : ∃ z, brokenD t f bs r d.Pieces = z := ⟨_, rfl⟩
  have HZ := Lib.hid hz
  rw [hz] at c0
  clear h h2 h3 h4 hps hz hB hD
  go_enter Tryz.func95, Tryz.ntmps95
  go_wp2_with (go_at_call 96; rw [← hWa, ← hWd]; clear hWa hWd; refine (impl_brokenRule H.out (hl.trans inferInstance) H2.out (hl2.trans inferInstance) H3.out (hl3.trans inferInstance) H4.out (hl4.trans inferInstance) HOK.out RR.out HPS.out).mono ?_; rw [HZ.out]; rintro e w1 ⟨rfl, L1⟩; have X1 := Later.trans (w := wb) inferInstance L1; have Z1 := Later.trans (w := w) inferInstance L1; have hcr := (hBby.out.later L1).cell; have hfr := (hBby.out.later L1).frozen)
  have hB := hBby.out.later L1
  have HF := (hB.set_ 0 (.int .i64 (1073741824))).set_ 1 (.int .i64 (0))
  have hr0 := (HF.cell 0).trans (show _ = some (.int .i64 (1073741824) : Value) from rfl)
  have hr1 := (HF.cell 1).trans (show _ = some (.int .i64 (0) : Value) from rfl)
  refine bodyPost_ret (v := .agg #[.int .i64 (1073741824), .int .i64 (0)]) (by simp [results, Tryz.results95, go_sem, hr0, hr1]) rfl ?_
  haveI : New w w.heap.size := ⟨Nat.le_refl _⟩
  exact ⟨rfl, inferInstance⟩
end Go.Proofs.YtknhebakebmlcaaGreat
