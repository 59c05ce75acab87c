/-
 FewestDuties: the program's best duties (cutter.duties).
-/
import Derived.Test.YtknhebakebmlcaaGreatDpD
namespace Go.Proofs.YtknhebakebmlcaaGreat
open Go Go.RowKit
set_option linter.unusedVariables false
set_option maxRecDepth 100000
set_option linter.unusedSimpArgs false
section
variable {α β : Type} {pc : Nat → α}
theorem pairsGo_none (b : List (Option Nat)) : ∀ i, pairsGo pc i (b ++ [none]) = pairsGo pc i b := by
 induction b with
 | nil => intro i; rfl
 | cons o b ih => intro i; cases o <;> simp [pairsGo, ih]
theorem pairsGo_some (k : Nat) (b : List (Option Nat)) : ∀ i, pairsGo pc i (b ++ [some k]) = pairsGo pc i b ++ [[pc (i + b.length), pc k]] := by
 induction b with
 | nil => intro i; simp [pairsGo]
 | cons o b ih =>
  intro i
  have e : i + 1 + b.length = i + (b.length + 1) := by omega
  cases o <;> simp [pairsGo, ih, e]
theorem aloneGo_snoc (uf : Nat) (q : Nat) : ∀ i, aloneGo pc uf i (q + 1) = aloneGo pc uf i q ++ (if uf.testBit (i + q) = true then [] else [[pc (i + q)]]) := by
 induction q with
 | zero => intro i; simp only [aloneGo, Nat.add_zero, List.nil_append]
 | succ q ih =>
  intro i
  rw [show aloneGo pc uf i (q + 1 + 1) = if uf.testBit i = true then aloneGo pc uf (i + 1) (q + 1) else [pc i] :: aloneGo pc uf (i + 1) (q + 1) from rfl]
  rw [ih (i + 1), show i + 1 + q = i + (q + 1) by omega]
  simp only [aloneGo]
  split
  ·rfl
  ·rfl
theorem mixGo_len (uf : Nat) (b : List (Option Nat)) : ∀ i, (mixGo pc uf i b).length ≤ b.length := by
 induction b with
 | nil => intro i; simp [mixGo]
 | cons o b ih =>
  intro i
  have := ih (i + 1)
  cases o with
  | some k => simp only [mixGo, List.length_cons]; omega
  | none =>
   simp only [mixGo, List.length_cons]
   split
   ·omega
   ·simp only [List.length_cons]; omega
theorem posK_map {key : β → Int} (g : α → β) (l : List α) (x : α) : ∀ j, posK key (l.map g) (g x) j = posK (fun y => key (g y)) l x j := by
 intro j
 induction j with
 | zero => rfl
 | succ j ih =>
  simp only [posK, List.getElem?_map]
  cases l[j]? with
  | none => rfl
  | some y => simp only [Option.map_some]; rw [ih]
theorem sortK_map {key : β → Int} (g : α → β) (l : List α) : (sortK (fun y => key (g y)) l).map g = sortK key (l.map g) := by
 have go : ∀ (l a : List α), (l.foldl (insK fun y => key (g y)) a).map g = (l.map g).foldl (insK key) (a.map g) := by
  intro l
  induction l with
  | nil => intro a; rfl
  | cons x l ih =>
   intro a
   simp only [List.foldl_cons, List.map_cons]
   rw [ih]
   congr 1
   unfold insK
   rw [List.length_map, posK_map, List.map_append, List.map_take, List.map_cons, List.map_drop]
 exact go l []
end
theorem usedP_snoc (o : Option Nat) (b : List (Option Nat)) : ∀ i u, usedP i (b ++ [o]) u = markP (i + b.length) (usedP i b u) o := by
 induction b with
 | nil => intro i u; rfl
 | cons p b ih =>
  intro i u
  simp only [List.cons_append, usedP]
  rw [ih, List.length_cons, show i + 1 + b.length = i + (b.length + 1) by omega]
theorem hitI_drop {n a : Nat} {p : Nat → Bool} (ha : a < n) : ((List.range n).drop a).find? p = if p a = true then some a else ((List.range n).drop (a + 1)).find? p := by
 rw [drop_at (x := a) (List.getElem?_range ha), List.find?_cons]
 cases p a <;> rfl
theorem hitI_fol {m : Nat} {A : Nat → Int} {P : Nat → Nat → Int} {r i u k : Nat} (hir : i + (r + 1) = m) : hitI m A P r u k = true ↔ (folV m A P r i k u).2 = true ∧ (folV m A P r i k u).1 = bI m A P (r + 1) u := by
 have e : m - (r + 1) = i := by omega
 unfold hitI folV
 rw [e, Bool.and_eq_true, decide_eq_true_eq]
 by_cases hm : mayP P u i k = true
 ·rw [if_pos hm]
  exact ⟨fun h => ⟨rfl, h.2⟩, fun h => ⟨hm, h.2⟩⟩
 ·rw [if_neg hm]
  exact ⟨fun h => absurd h.1 hm, fun h => absurd h.1 (by simp)⟩
/-- The best duties, as the program lays them: pairs, then those alone. -/
def rawD (m : Nat) (A : Nat → Int) (P : Nat → Nat → Int) (ps : List (List Int)) : List (List (List Int)) := pairsGo (pcK ps) 0 (behGo m A P m 0) ++ aloneGo (pcK ps) (usedP 0 (behGo m A P m 0) 0) 0 m
theorem rawD_len (m : Nat) (A : Nat → Int) (P : Nat → Nat → Int) (ps : List (List Int)) : (rawD m A P ps).length ≤ m := by
 have h1 := mix_perm (pcK ps) (usedP 0 (behGo m A P m 0) 0) (behGo m A P m 0) 0 fun t k h => by
  rw [usedP_bit]
  exact .inr ⟨t, k, h, .inl (by omega)⟩
 have h2 := mixGo_len (pc := pcK ps) (usedP 0 (behGo m A P m 0) 0) (behGo m A P m 0) 0
 rw [behGo_len] at h1 h2
 unfold rawD
 rw [← h1.length_eq]
 exact h2
/-- The blocks of the duties are new ones, or those of pieces that Z marks. -/
def BlkU (base : Nat) (fps : List (List Nat)) (Z : Nat → Prop) (L : List DutE) : Prop := ∀ g, g ∈ blksD L → base ≤ g ∨ ∃ j f, Z j ∧ fps[j]? = some f ∧ g ∈ f
def DutPos (L : List DutE) : Prop := ∀ x, x ∈ L → 0 < x.2.1.length ∧ 0 < (x.2.1.headD []).length
theorem PcsO.lt {w : World} {lo hi : Nat} {pA : Option Addr} {n c : Nat} {ps : List (List Int)} {fps : List (List Nat)} (h : PcsO w lo hi pA n c ps fps) {j : Nat} {f : List Nat} (hf : fps[j]? = some f) {g : Nat} (hg : g ∈ f) : g < w.heap.size := by
 have hj : j < ps.length := by rw [← h.flen]; exact (List.getElem?_eq_some_iff.1 hf).1
 obtain ⟨b, o, A, n', c', f', _, _, h1, h2, _, _⟩ := h.at_ j _ (List.getElem?_eq_getElem hj)
 rw [hf] at h1
 cases h1
 exact h2.lt g hg
theorem BlkU.far {base : Nat} {fps : List (List Nat)} {Z : Nat → Prop} {L : List DutE} (h : BlkU base fps Z L) {w : World} {lo hi : Nat} {pA : Option Addr} {n c : Nat} {ps : List (List Int)} (hP : PcsO w lo hi pA n c ps fps) {b : Nat} (hb : b < base) (hw : w.heap.size ≤ b) : b ∉ blksD L := fun hm => by
 rcases h b hm with h1 | ⟨j, f, _, hf, hg⟩
 ·omega
 ·have := hP.lt hf hg; omega
theorem infoDt : (Tryz.prog.info? 76).map (fun i => (i.zero, i.size, i.bytes)) = some (some (.agg #[.slice none 0 0]), 1, 24) := by kernel_rfl
set_option maxHeartbeats 8000000 in
theorem cut_duties {m : Nat} {A : Nat → Int} {P : Nat → Nat → Int} {pA : Option Addr} {pc gx gs gp b : Nat} {g : Nat → Nat} (ci : CutIn m A P) {ps : List (List Int)} {fps : List (List Nat)} {lo hi : Nat} {w5 w : World} (hP : PcsO w5 lo hi pA m pc ps fps) (hl5 : Later w5 w) (hb5 : w5.heap.size ≤ b) (hlo : lo ≤ w5.heap.size) (hX : CutOK 134 m A P w (.slice pA m pc) gx gs gp b g) {cnt : Nat} (hM : MemoOK (memoB m A P) w b cnt) (hc : cnt ≤ 1000000000000) (hpos : ∀ p, p ∈ ps → p ≠ []) :
  Calls Tryz.prog 76 #[.pointer (some ⟨gx, 0, none⟩)] w (fun e W' => ∃ A' n c fp, e = .returned (.slice A' n c) ∧ OSl 1 oDuty W' A' n c ((sortK keyD (rawD m A P ps)).map Duty.mk) fp ∧ fp.Nodup ∧ (∀ g, g ∈ fp → lo ≤ g) ∧ Touch [b] w W') := by
 have hm8 := ci.m8
 have h256 := pow256 hm8
 have hgx := hX.x.lt
 have hbW := hM.lt
 have hw5 := hl5.size
 have hgxb := hX.nx
 have hxs := hX.xs
 have HX := Lib.hid hX
 have HM := Lib.hid hM
 have HPC := Lib.hid hP
 have HPS := Lib.hid hpos
 have HBS := Lib.hid fun r => (best_all (pA := pA) (pc := pc) (gx := gx) (gs := gs) (gp := gp) (b := b) (g := g) ci r).1
 have HFL := Lib.hid fun r => (best_all (pA := pA) (pc := pc) (gx := gx) (gs := gs) (gp := gp) (b := b) (g := g) ci r).2
 obtain ⟨BH, hBH⟩ : ∃ BH, behGo m A P m 0 = BH := ⟨_, rfl⟩
 have HBH := Lib.hid hBH
 obtain ⟨base, hbase⟩ : ∃ x, x = w.heap.size := ⟨_, rfl⟩
 have HBASE := Lib.hid hbase
 have hb1 : base ≤ w.heap.size := Nat.le_of_eq hbase
 have hb2 : w.heap.size ≤ base := Nat.le_of_eq hbase.symm
 clear hX hM hP hpos hBH hbase
 go_enter Tryz.func76, Tryz.ntmps76
 go_wp2_with fail
 go_loopw [3, 4, 17] (fun ov uv iv wr => ∃ (i u cnt' : Nat) (L : List DutE) (pre : List (Option Nat)), i ≤ m ∧ iv = .int .i64 (i : Int) ∧ uv = .int .i64 (u : Int) ∧ u < 2 ^ m ∧ Hid (BH = pre ++ behGo m A P (m - i) u ∧ pre.length = i ∧ usedP 0 pre 0 = u) ∧ Hid (L.map (·.2.1) = pairsGo (pcK ps) 0 pre) ∧ Hid (DutS wr base 76 ov L) ∧ Hid (BlkU base fps (fun j => u.testBit j = true) L) ∧ Hid (DutPos L) ∧ Hid (MemoOK (memoB m A P) wr b cnt') ∧ Hid (cnt' ≤ cnt + i * 1000000000) ∧ Hid (Touch [b] w wr) ∧ L.length ≤ i) (fun _ _ iv _ => m - (intOf iv).toNat)
 case atStart => exact ⟨0, 0, cnt, [], [], by omega, rfl, rfl, Nat.two_pow_pos m, Lib.hid ⟨by rw [HBH.out.symm]; rfl, rfl, rfl⟩, Lib.hid rfl, Lib.hid (DutS.nil_ _ _ _), Lib.hid (by intro g hg; simp [blksD] at hg), Lib.hid (by intro x hx; simp at hx), HM, Lib.hid (by omega), Lib.hid Touch.refl_, by simp⟩
 case round =>
  obtain ⟨i, u, cnt', L, pre, hi, rfl, rfl, hu, HP, HLM, HD, HBU, HPO, hM, hcn, hT, hLl⟩ := hrel
  obtain ⟨ov, hov⟩ : ∃ ov, ov = u3 := ⟨_, rfl⟩
  subst hov
  obtain ⟨w1, rfl⟩ : ∃ w1 : World, w1 = wr := ⟨_, rfl⟩
  have hTr := hT.out
  have hXr := HX.out.touch hTr (by simp)
  have hxr := hXr.xs
  have hz1 := hTr.size
  by_cases hlt0 : i < m
  ·obtain ⟨r, hr⟩ : ∃ r, r = m - (i + 1) := ⟨_, rfl⟩
   have hir : i + (r + 1) = m := by omega
   have hP1 := HP.out.1
   rw [show m - i = r + 1 by omega] at hP1
   simp only [behGo] at hP1
   rw [show m - (r + 1) = i by omega] at hP1
   have HP1 := Lib.hid hP1
   have HP2 := Lib.hid HP.out.2.1
   have HP3 := Lib.hid HP.out.2.2
   have HR := Lib.hid hr
   obtain ⟨c1, d1, hcd1⟩ : ∃ c1 d1, bI m A P (r + 1) u = (c1, d1) := ⟨_, _, rfl⟩
   have HC1 := Lib.hid hcd1
   have hn1 := NB_le (r := r + 1) (by omega)
   have hn2 := NB_le (r := r) (by omega)
   obtain ⟨n1, hn1e⟩ : ∃ n1, n1 = NB (r + 1) := ⟨_, rfl⟩
   obtain ⟨n2, hn2e⟩ : ∃ n2, n2 = NB r := ⟨_, rfl⟩
   rw [← hn1e] at hn1
   rw [← hn2e] at hn2
   have HN1 := Lib.hid hn1e
   have HN2 := Lib.hid hn2e
   have hcn1 := hcn.out
   have HXr := Lib.hid hXr
   clear hP1 hr hcd1 hn1e hn2e HP hXr hcn hTr
   go_wp2_with (go_at_call 74; go_loud (refine (HBS.out (r + 1) w1 (i : Int) (u : Int) i u cnt' rfl rfl hir hu HXr.out hM.out (by rw [← HN1.out]; omega)).mono ?_; rw [HC1.out, ← HN1.out]; rintro e w6 ⟨rfl, hM6, hT6⟩; have hX6 := HXr.out.touch hT6 (by simp); have hx6 := hX6.xs))
   obtain ⟨pb, hpb⟩ : ∃ pb, pb = w6.heap.size := ⟨_, rfl⟩
   obtain ⟨W6, hW6⟩ : ∃ W6 : World, W6 = w6.alloc (.cells #[.int .i64 c1, .int .i64 d1] 110) := ⟨_, rfl⟩
   rw [← hW6]
   have hP6 : Blk W6 pb 110 #[.int .i64 c1, .int .i64 d1] := by rw [hW6, hpb]; exact Blk.new _ _ _
   rw [← hpb]
   haveI L6 : Later w6 W6 := by rw [hW6]; infer_instance
   have hM6' := hM6.later L6
   have HT6 := Lib.hid ((hT.out.trans hT6).trans (Touch.of_later L6))
   have HT16 := Lib.hid (hT6.trans (Touch.of_later L6))
   have hpbw : base ≤ pb := by have := hT6.size; omega
   have hbpb : b ≠ pb := by omega
   have hb6 := HT6.out.size
   clear hW6 hpb hX6 hx6 hxr hT6 hT hM6 L6 hM
   go_loopw [3, 4, 29] (fun ov' uv' kv wr => ov' = ov ∧ uv' = .int .i64 (u : Int) ∧ ∃ (k cnt2 : Nat), k ≤ m ∧ kv = .int .i64 (k : Int) ∧ Hid (((List.range m).drop k).find? (hitI m A P r u) = behO m A P r u) ∧ Hid (MemoOK (memoB m A P) wr b cnt2) ∧ Hid (cnt2 ≤ cnt' + 100000000 + k * 100000000) ∧ Hid (Touch [b] W6 wr)) (fun _ _ kv _ => m - (intOf kv).toNat)
   case atStart => exact ⟨rfl, rfl, 0, _, by omega, rfl, Lib.hid (by rw [List.drop_zero]; rfl), Lib.hid hM6', Lib.hid (by omega), Lib.hid Touch.refl_⟩
   case round =>
    obtain ⟨hq3, rfl, k, cnt2, hk, rfl, HF, hM2, hcn2, hT2⟩ := hrel
    have hq3 := hq3.symm
    subst hq3
    have hT62 := HT6.out.trans hT2.out
    have HXr := Lib.hid (HX.out.touch hT62 (by simp))
    have hxr := HXr.out.xs
    have HPr := Lib.hid (hT2.out.blk hP6 (by simpa using (Ne.symm hbpb)))
    have hz2 := hT2.out.size
    have hcn3 := hcn2.out
    by_cases hlt : k < m
    ·obtain ⟨c3, d3, ok3, hav⟩ : ∃ c3 d3 ok3, folV m A P r i k u = ((c3, d3), ok3) := ⟨_, _, _, rfl⟩
     have HAV := Lib.hid hav
     have hF1 := HF.out
     rw [hitI_drop hlt] at hF1
     have HF1 := Lib.hid hF1
     have hcl : cnt2 + NB r ≤ 1000000000000000 := by rw [← HN2.out]; omega
     have hcn4 : Hid (cnt2 + NB r ≤ cnt' + 100000000 + (k + 1) * 100000000) := by show _ ≤ _; rw [← HN2.out]; omega
     clear hF1 HF hav hT62
     cases ok3 with
     | false =>
      have hno : ¬ hitI m A P r u k = true := fun e => by have h9 := ((hitI_fol hir).1 e).1; rw [HAV.out] at h9; cases h9
      have hF2 := HF1.out
      rw [if_neg hno] at hF2
      have HF2 := Lib.hid hF2
      clear HF1 hF2 hno
      go_wp2_with (go_at_call 100; go_loud (refine (HFL.out r wr (i : Int) (k : Int) (u : Int) i k u cnt2 rfl rfl rfl hir hlt hu HXr.out hM2.out hcl).mono ?_; rw [HAV.out]; rintro e w6 ⟨rfl, hM6, hT6⟩; have h6r := hT6.blk HPr.out (by simp; omega); have h6c : ∀ W' [Later w6 W'] (j : Nat), W'.cell? ⟨pb, j, none⟩ = (#[.int .i64 c1, .int .i64 d1] : Array Value)[j]? := (fun W' hW' j => (h6r.later hW').cell j)))
      go_roundw
      case rel => exact ⟨rfl, rfl, k + 1, _, by omega, by go_num, HF2, Lib.hid (hM6.later inferInstance), hcn4, Lib.hid ((hT2.out.trans hT6).trans (Touch.of_later inferInstance))⟩
      case measure => simp [intOf]; omega
     | true =>
      obtain ⟨z, hz⟩ : ∃ z, z = prC (c3, d3) (c1, d1) := ⟨_, rfl⟩
      have HZ := Lib.hid hz.symm
      clear hz
      by_cases he : (c3, d3) = (c1, d1)
      ·have hhit : hitI m A P r u k = true := (hitI_fol hir).2 ⟨by rw [HAV.out], by rw [HAV.out, HC1.out]; exact he⟩
       have hF2 := HF1.out
       rw [if_pos hhit] at hF2
       have HF2 := Lib.hid hF2.symm
       have hzz : z = 0 := by rw [← HZ.out]; exact (prC_eq _ _).2 he
       subst hzz
       have hmay : mayP P u i k = true := by have h9 := (beh_some hF2.symm).2.1; rw [show m - (r + 1) = i by omega] at h9; exact h9
       have HMAY := Lib.hid (mayP_t hmay)
       obtain ⟨x, hx⟩ : ∃ x, ps[i]? = some x := ⟨_, List.getElem?_eq_getElem (by have := HPC.out.len; omega)⟩
       obtain ⟨y, hy⟩ : ∃ y, ps[k]? = some y := ⟨_, List.getElem?_eq_getElem (by have := HPC.out.len; omega)⟩
       obtain ⟨b1, o1, A1, q1, s1, fi, hA1, hc1, hfi, ho1, _, _⟩ := HPC.out.at_ i x hx
       obtain ⟨b2, o2, A2, q2, s2, fk, hA2, hc2, hfk, ho2, _, _⟩ := HPC.out.at_ k y hy
       rw [hA1] at hA2
       cases hA2
       subst hA1
       have HPI := Lib.hid (pcK_of hx)
       have HPK := Lib.hid (pcK_of hy)
       have HXP := Lib.hid (HPS.out x (List.mem_of_getElem? hx))
       have HC1c := Lib.hid hc1
       have HC2c := Lib.hid hc2
       have HO1 := Lib.hid ho1
       have HO2 := Lib.hid ho2
       have HFI := Lib.hid hfi
       have HFK := Lib.hid hfk
       have hil : (i : Int) < (m : Int) := by omega
       have hkl : (k : Int) < (m : Int) := by omega
       have hi12 : i < 12 := by omega
       have hk12 : k < 12 := by omega
       have hor1 := or_nat (u := 2 ^ i) (v := 2 ^ k) (by have := pow12 hi12; omega) (by have := pow12 hk12; omega)
       obtain ⟨x2, hx2⟩ : ∃ x2, x2 = 2 ^ i ||| 2 ^ k := ⟨_, rfl⟩
       have hx2b : x2 < 4096 := by rw [hx2]; exact or12 (by have := pow12 hi12; omega) hk12
       have hor2 := or_nat (u := u) (v := x2) (by omega) (by omega)
       obtain ⟨v, hv⟩ : ∃ v, v = u ||| x2 := ⟨_, rfl⟩
       have HV : Hid (markP i u (some k) = v) := by show u ||| 2 ^ i ||| 2 ^ k = v; rw [hv, hx2, Nat.or_assoc]
       have hvl : v < 2 ^ m := by rw [← HV.out]; exact or_lt2 hu hlt0 hlt
       have HVB : Hid (∀ j : Nat, v.testBit j = (u.testBit j || decide (i = j) || decide (k = j))) := fun j => by rw [← HV.out]; show (u ||| 2 ^ i ||| 2 ^ k).testBit j = _; rw [bit_or1, bit_or1]
       rw [← hx2] at hor1
       rw [← hv] at hor2
       have hs1 := shl12 hi12
       have hs2 := shl12 hk12
       rw [Int.one_mul] at hs1 hs2
       have hq1 : bits BinOp.or IntKind.i64 (IntKind.i64.wrap (2 ^ i)) (IntKind.i64.wrap (2 ^ k)) = (x2 : Int) := by rw [hs1, hs2]; exact hor1
       have hq3 : bits BinOp.or IntKind.i64 (wrap64 (2 ^ i)) (wrap64 (2 ^ k)) = (x2 : Int) := by rw [← wrap_64, ← wrap_64]; exact hq1
       have hi64 : (i : Int) ≤ 64 := by omega
       have hk64 : (k : Int) ≤ 64 := by omega
       clear HF1 hF2 hhit he hmay hx hy hc1 hc2 ho1 ho2 hfi hfk hor1 hx2 hv hs1 hs2
       go_wp2_with first
        | (go_at_call 100; go_loud (refine (HFL.out r wr (i : Int) (k : Int) (u : Int) i k u cnt2 rfl rfl rfl hir hlt hu HXr.out hM2.out hcl).mono ?_; rw [HAV.out]; rintro e w6 ⟨rfl, hM6, hT6⟩; have h6r := hT6.blk HPr.out (by simp; omega); have h6c : ∀ W' [Later w6 W'] (j : Nat), W'.cell? ⟨pb, j, none⟩ = (#[.int .i64 c1, .int .i64 d1] : Array Value)[j]? := (fun W' hW' j => (h6r.later hW').cell j)))
        | (go_at_call 75; go_loud (refine (impl_comparePrices c3 d3 c1 d1 _).mono ?_; rw [HZ.out]; rintro e w8 ⟨rfl, L8⟩; have U8 := Later.trans (w := w6) inferInstance L8))
       have HT8 := Lib.hid (((HT6.out.trans hT2.out).trans hT6).trans (Touch.of_later U8))
       have hX8 := HX.out.touch HT8.out (by simp)
       have l58 : Later w5 w8 := HT8.out.later hl5 (by simpa using hb5)
       have HT18 := Lib.hid (((HT16.out.trans hT2.out).trans hT6).trans (Touch.of_later U8))
       have hbk : b ∉ blksD L := HBU.out.far HPC.out (by omega) hb5
       have HD8 := Lib.hid (HD.out.touch HT18.out (by intro g hg; rw [List.mem_singleton.1 hg]; omega) (by intro g hg; rw [List.mem_singleton.1 hg]; exact hbk))
       have hol : ∀ g, ov.ownBlock = some g → base ≤ g := fun g hg => (HD8.out.own.lt g hg).1
       have hlw8 := HT8.out.size
       have tX := Touch.cells hX8.x (show gx ∉ ownL ov from fun hm => by have := hol _ (ownL_mem hm); omega)
       have tW : ∀ W', Touch (ownL ov) w8 W' → Later w5 W' := fun W' hT => hT.later l58 fun g hg => by have := hol _ (ownL_mem hg); omega
       have tI : ∀ W', Touch (ownL ov) w8 W' → W'.cell? ⟨b1, o1 + i, none⟩ = some (.slice A1 q1 s1) := fun W' hT => (tW W' hT).cell HC1c.out
       have tK : ∀ W', Touch (ownL ov) w8 W' → W'.cell? ⟨b1, o1 + k, none⟩ = some (.slice A2 q2 s2) := fun W' hT => (tW W' hT).cell HC2c.out
       have ho1 := HO1.out.later l58
       have ho2 := HO2.out.later l58
       obtain ⟨z8, hz8⟩ : ∃ z8, z8 = w8.heap.size := ⟨_, rfl⟩
       have hb8 : Blk (w8.alloc (.cells #[.slice A1 q1 s1, .slice A2 q2 s2] 66)).drew z8 66 #[.slice A1 q1 s1, .slice A2 q2 s2] := by rw [hz8]; exact Blk.new _ _ _
       have hrow := Lib.hid (duty_own2 hb8 (ho1.later (inferInstance : Later w8 (w8.alloc _).drew)) (ho2.later (inferInstance : Later w8 (w8.alloc _).drew)))
       have hg1 := ho1.lt
       have hg2 := ho2.lt
       have hp1 := HO1.out.lt
       have hp2 := HO2.out.lt
       have hdis := nodup_at HPC.out.nd HFI.out HFK.out
       have hdis2 := (nodup_at HPC.out.nd HFK.out HFK.out).1
       have HND : Hid ((z8 :: (fi ++ fk)).Nodup) := by
        show List.Nodup _
        rw [List.nodup_cons, List.nodup_append]
        refine ⟨fun hm => ?_, hdis.1, hdis2, fun a ha b hb e => hdis.2 HMAY.out.1 a ha (e ▸ hb)⟩
        rcases List.mem_append.1 hm with hm | hm
        ·have := hg1 _ hm; omega
        ·have := hg2 _ hm; omega
       have HDJ : Hid (∀ g, g ∈ z8 :: (fi ++ fk) → g ∉ blksD L) := fun g hg hm => by
        rcases List.mem_cons.1 hg with rfl | hg
        ·have := HD8.out.lt _ hm; omega
        ·have hl5g : g < w5.heap.size := by
          rcases List.mem_append.1 hg with hg | hg
          ·exact hp1 g hg
          ·exact hp2 g hg
         rcases HBU.out g hm with h9 | ⟨j, f, hj, hf, hgf⟩
         ·omega
         ·rcases List.mem_append.1 hg with hg | hg
          ·refine (nodup_at HPC.out.nd HFI.out hf).2 (fun e => ?_) g hg hgf
           rw [← e, HMAY.out.2.1] at hj; cases hj
          ·refine (nodup_at HPC.out.nd HFK.out hf).2 (fun e => ?_) g hg hgf
           rw [← e, HMAY.out.2.2.1] at hj; cases hj
       have HOV : Hid (∀ g, ov.ownBlock = some g → g ∉ z8 :: (fi ++ fk)) := fun g hg hm => by
        have h9 := hol g hg
        have h10 := (HD8.out.own.lt g hg).2
        rcases List.mem_cons.1 hm with rfl | hm
        ·omega
        ·rcases List.mem_append.1 hm with hm | hm
         ·have := hp1 g hm; omega
         ·have := hp2 g hm; omega
       have hw8b : base ≤ w8.heap.size := by omega
       have hLn : L.length ≤ 1073741824 := by omega
       subst hz8
       clear hX8 hbk hg1 hg2 hp1 hp2 hdis hdis2 ho1 ho2 hb8 tW h6c hxr
       refine gO (S := (fun w' => Touch (ownL ov) w8 w')) (by kernel_rfl) (by first | exact Touch.of_later inferInstance | exact hT9) (fun _ _ _ _ _ h => h) (fun hHeld hZq => ?_)
       refine gT 0 rfl (by kernel_rfl) (by intro w' hSw; go_simp <;> rfl) hZq hHeld ?_; simp only [Act.put, sA, sZ, sS]
       refine gT 1 rfl (by kernel_rfl) (by intro w' hSw; go_simp <;> rfl) hZq hHeld ?_; simp only [Act.put, sA, sZ, sS]
       refine gT 2 rfl (by kernel_rfl) (by intro w' hSw; go_simp <;> rfl) hZq hHeld ?_; simp only [Act.put, sA, sZ, sS]
       refine gT 3 rfl (by kernel_rfl) (by intro w' hSw; go_simp <;> rfl) hZq hHeld ?_; simp only [Act.put, sA, sZ, sS]
       refine gT 4 rfl (by kernel_rfl) (by intro w' hSw; go_simp <;> rfl) hZq hHeld ?_; simp only [Act.put, sA, sZ, sS]
       refine gT 5 rfl (by kernel_rfl) (by intro w' hSw; go_simp <;> rfl) hZq hHeld ?_; simp only [Act.put, sA, sZ, sS]
       refine gT 6 rfl (by kernel_rfl) (by intro w' hSw; go_simp <;> rfl) hZq hHeld ?_; simp only [Act.put, sA, sZ, sS]
       refine gT 7 rfl (by kernel_rfl) (by intro w' hSw; go_simp <;> rfl) hZq hHeld ?_; simp only [Act.put, sA, sZ, sS]
       refine gT 8 rfl (by kernel_rfl) (by intro w' hSw; go_simp <;> rfl) hZq hHeld ?_; simp only [Act.put, sA, sZ, sS]
       refine gT 9 rfl (by kernel_rfl) (by intro w' hSw; go_simp <;> rfl) hZq hHeld ?_; simp only [Act.put, sA, sZ, sS]
       refine gT 10 rfl (by kernel_rfl) (by intro w' hSw; go_simp <;> rfl) hZq hHeld ?_; simp only [Act.put, sA, sZ, sS]
       refine gT 11 rfl (by kernel_rfl) (by intro w' hSw; go_simp <;> rfl) hZq hHeld ?_; simp only [Act.put, sA, sZ, sS]
       refine gT 12 rfl (by kernel_rfl) (by intro w' hSw; go_simp <;> rfl) hZq hHeld ?_; simp only [Act.put, sA, sZ, sS]
       refine gT 13 rfl (by kernel_rfl) (by intro w' hSw; go_simp <;> rfl) hZq hHeld ?_; simp only [Act.put, sA, sZ, sS]
       refine gT 14 rfl (by kernel_rfl) (by intro w' hSw; go_simp <;> rfl) hZq hHeld ?_; simp only [Act.put, sA, sZ, sS]
       refine gE 15 rfl (by kernel_rfl) (fun K hK => ?_)
       go_simp
       skip
       refine hK.out _ _ (by first | exact Touch.of_later inferInstance | exact hT9) (fun hHeld => ?_)
       try simp only [Act.put, sA, sZ, sS]
       refine gT 16 rfl (by kernel_rfl) (by intro w' hSw; go_simp <;> rfl) hZq hHeld ?_; simp only [Act.put, sA, sZ, sS]
       refine gE 17 rfl (by kernel_rfl) (fun K hK => ?_)
       go_simp
       skip
       refine hK.out _ _ (by first | exact Touch.of_later inferInstance | exact hT9) (fun hHeld => ?_)
       try simp only [Act.put, sA, sZ, sS]
       refine gE 18 rfl (by kernel_rfl) (fun K hK => ?_)
       rw [if_pos (by rfl)]; change Oper.wp _ _ _ (World.alloc (World.drew (World.alloc w8 _)) _) _ _; refine wp_app_D _ _ 55 rfl Tryz.underlying55 infoDt (by decide) (w1 := w8) (v := ov) (by rfl) HD8.out inferInstance hw8b hrow.out HND.out HDJ.out HOV.out (by show Value.slice (some ⟨w8.heap.size + 1, 0, none⟩) 1 1 = _; simp) hLn ?_; intro v9 w9 hD9 hG9; have hT9 : Touch (ownL ov) w8 w9 := (Touch.of_later (inferInstance : Later w8 (w8.alloc _).drew)).trans (Touch.grownL hG9)
       refine hK.out _ _ (by first | exact Touch.of_later inferInstance | exact hT9) (fun hHeld => ?_)
       try simp only [Act.put, sA, sZ, sS]
       refine gT 19 rfl (by kernel_rfl) (by intro w' hSw; go_simp <;> rfl) hZq hHeld ?_; simp only [Act.put, sA, sZ, sS]
       refine wpAnyH_done (by kernel_rfl) ?_ _
       go_wp2_with fail
       refine gO (S := (fun w' => Later w9 w')) (by kernel_rfl) (by exact inferInstance) (fun _ _ _ _ _ h => h) (fun hHeld hZq => ?_)
       refine gT 0 rfl (by kernel_rfl) (by intro w' hSw; go_simp <;> rfl) hZq hHeld ?_; simp only [Act.put, sA, sZ, sS]
       refine gT 1 rfl (by kernel_rfl) (by intro w' hSw; go_simp <;> rfl) hZq hHeld ?_; simp only [Act.put, sA, sZ, sS]
       refine gT 2 rfl (by kernel_rfl) (by intro w' hSw; go_simp <;> rfl) hZq hHeld ?_; simp only [Act.put, sA, sZ, sS]
       refine gT 3 rfl (by kernel_rfl) (by intro w' hSw; go_simp <;> rfl) hZq hHeld ?_; simp only [Act.put, sA, sZ, sS]
       refine gT 4 rfl (by kernel_rfl) (by intro w' hSw; go_simp <;> rfl) hZq hHeld ?_; simp only [Act.put, sA, sZ, sS]
       refine gT 5 rfl (by kernel_rfl) (by intro w' hSw; go_simp <;> rfl) hZq hHeld ?_; simp only [Act.put, sA, sZ, sS]
       refine gT 6 rfl (by kernel_rfl) (by intro w' hSw; go_simp <;> rfl) hZq hHeld ?_; simp only [Act.put, sA, sZ, sS]
       refine gT 7 rfl (by kernel_rfl) (by intro w' hSw; go_simp <;> rfl) hZq hHeld ?_; simp only [Act.put, sA, sZ, sS]
       refine wpAnyH_done (by kernel_rfl) ?_ _
       have hbo : b ∉ ownL ov := fun hm => by have := hol _ (ownL_mem hm); omega
       have HM9 := Lib.hid ((hM6.later U8).touch hT9 hbo)
       have HTW9 : Hid (Touch [b] w w9) := ((HT8.out.mono (fq := b :: ownL ov) (by simp)).trans (hT9.mono (by intro g hg; simp [hg]))).less (fun g hg hl => by
        rcases List.mem_cons.1 hg with rfl | hg
        ·simp
        ·have := hol _ (ownL_mem hg); omega)
       have HD9 := Lib.hid hD9
       clear hT9 hD9 tX tI tK hG9
       go_wp2
       go_roundw
       case rel =>
        refine ⟨i + 1, v, cnt2 + NB r, L ++ [(.slice (some ⟨w8.heap.size, 0, none⟩) 2 2, [x, y], w8.heap.size :: (fi ++ fk))], pre ++ [some k], by omega, by go_num, rfl, hvl, Lib.hid ⟨?_, by rw [List.length_append, HP2.out]; rfl, ?_⟩, Lib.hid ?_, Lib.hid (HD9.out.later inferInstance), Lib.hid (fun g hg => ?_), Lib.hid (fun e he => ?_), Lib.hid (HM9.out.later inferInstance), Lib.hid ?_, Lib.hid (HTW9.out.trans (Touch.of_later inferInstance)), by rw [List.length_append]; simp; omega⟩
        ·rw [HP1.out, HF2.out, HV.out, show m - (i + 1) = r by omega, List.append_assoc]; rfl
        ·rw [usedP_snoc, HP3.out, HP2.out, Nat.zero_add]; exact HV.out
        ·rw [List.map_append, HLM.out, pairsGo_some, HP2.out, Nat.zero_add, HPI.out, HPK.out]; rfl
        ·rw [blksD_app] at hg
         rcases List.mem_append.1 hg with hg | hg
         ·rcases HBU.out g hg with h9 | ⟨j, f, hj, hf, hgf⟩
          ·exact .inl h9
          ·exact .inr ⟨j, f, by show v.testBit j = true; rw [HVB.out, hj]; rfl, hf, hgf⟩
         ·simp only [blksD, List.map_cons, List.map_nil, List.flatten_cons, List.flatten_nil, List.append_nil] at hg
          rcases List.mem_cons.1 hg with rfl | hg
          ·exact .inl hw8b
          ·rcases List.mem_append.1 hg with hg | hg
           ·exact .inr ⟨i, fi, by show v.testBit i = true; rw [HVB.out]; simp, HFI.out, hg⟩
           ·exact .inr ⟨k, fk, by show v.testBit k = true; rw [HVB.out]; simp, HFK.out, hg⟩
        ·rcases List.mem_append.1 he with he | he
         ·exact HPO.out e he
         ·rw [List.mem_singleton.1 he]
          exact ⟨by simp, by simpa using List.length_pos_iff.2 HXP.out⟩
        ·have := hcn4.out; show _ ≤ _; omega
       case measure => simp [intOf]; omega
      ·have hno : ¬ hitI m A P r u k = true := fun e => by have h9 := ((hitI_fol hir).1 e).2; rw [HAV.out, HC1.out] at h9; exact he h9
       have hF2 := HF1.out
       rw [if_neg hno] at hF2
       have HF2 := Lib.hid hF2
       have hzz : ¬ z = 0 := by rw [← HZ.out]; exact fun e => he ((prC_eq _ _).1 e)
       have hzz1 := (beqi_f hzz).1
       have hzz2 := (beqi_f hzz).2
       clear HF1 hF2 hno he
       go_wp2_with first
        | (go_at_call 100; go_loud (refine (HFL.out r wr (i : Int) (k : Int) (u : Int) i k u cnt2 rfl rfl rfl hir hlt hu HXr.out hM2.out hcl).mono ?_; rw [HAV.out]; rintro e w6 ⟨rfl, hM6, hT6⟩; have h6r := hT6.blk HPr.out (by simp; omega); have h6c : ∀ W' [Later w6 W'] (j : Nat), W'.cell? ⟨pb, j, none⟩ = (#[.int .i64 c1, .int .i64 d1] : Array Value)[j]? := (fun W' hW' j => (h6r.later hW').cell j)))
        | (go_at_call 75; go_loud (refine (impl_comparePrices c3 d3 c1 d1 _).mono ?_; rw [HZ.out]; rintro e w8 ⟨rfl, L8⟩; have U8 := Later.trans (w := w6) inferInstance L8))
       go_roundw
       case rel => exact ⟨rfl, rfl, k + 1, _, by omega, by go_num, HF2, Lib.hid (hM6.later U8), hcn4, Lib.hid ((hT2.out.trans hT6).trans (Touch.of_later U8))⟩
       case measure => simp [intOf]; omega
    ·have hkm : m = k := by omega
     subst hkm
     have hF1 := HF.out
     rw [List.drop_eq_nil_of_le (by simp)] at hF1
     have HF1 := Lib.hid (show none = behO m A P r u from hF1)
     have HD8 := Lib.hid (HD.out.touch (HT16.out.trans hT2.out) (by intro g hg; rw [List.mem_singleton.1 hg]; omega) (by intro g hg; rw [List.mem_singleton.1 hg]; exact HBU.out.far HPC.out (by omega) hb5))
     have HT8 := Lib.hid hT62
     clear hF1 HF hT62 hxr
     go_wp2
     go_roundw
     case rel =>
      refine ⟨i + 1, u, cnt2, L, pre ++ [none], by omega, by go_num, rfl, hu, Lib.hid ⟨?_, by rw [List.length_append, HP2.out]; rfl, ?_⟩, Lib.hid ?_, Lib.hid (HD8.out.later inferInstance), HBU, HPO, Lib.hid (hM2.out.later inferInstance), Lib.hid (by omega), Lib.hid (HT8.out.trans (Touch.of_later inferInstance)), by omega⟩
      ·rw [HP1.out, ← HF1.out, show m - (i + 1) = r by omega, List.append_assoc]; rfl
      ·rw [usedP_snoc, HP3.out]; rfl
      ·rw [HLM.out, pairsGo_none]
     case measure => simp [intOf]; omega
  ·have him : m = i := by omega
   subst him
   have hPB : BH = pre := by have h9 := HP.out.1; rw [Nat.sub_self] at h9; simpa [behGo] using h9
   have HUF := Lib.hid (show usedP 0 BH 0 = u by rw [hPB]; exact HP.out.2.2)
   have HLM1 := Lib.hid (show L.map (·.2.1) = pairsGo (pcK ps) 0 BH ++ aloneGo (pcK ps) u 0 0 by rw [HLM.out, hPB]; simp [aloneGo])
   have HBU1 : Hid (BlkU base fps (fun j => u.testBit j = true ∨ j < 0) L) := fun g hg => by
    rcases HBU.out g hg with h9 | ⟨j, f, hj, hf, hgf⟩
    ·exact .inl h9
    ·exact .inr ⟨j, f, .inl hj, hf, hgf⟩
   clear hPB HP HLM HBU hM hcn hTr hXr
   go_wp2
   go_loopw [3, 80] (fun ov' iv wr => ∃ (q : Nat) (L : List DutE), q ≤ m ∧ iv = .int .i64 (q : Int) ∧ Hid (L.map (·.2.1) = pairsGo (pcK ps) 0 BH ++ aloneGo (pcK ps) u 0 q) ∧ Hid (DutS wr base 76 ov' L) ∧ Hid (BlkU base fps (fun j => u.testBit j = true ∨ j < q) L) ∧ Hid (DutPos L) ∧ Hid (Touch [b] w wr) ∧ L.length ≤ m + q) (fun _ iv _ => m - (intOf iv).toNat)
   case atStart => exact ⟨0, L, by omega, rfl, HLM1, HD, HBU1, HPO, hT, by omega⟩
   case round =>
    obtain ⟨q, L2, hq, rfl, HLM2, HD2, HBU2, HPO2, hT2, hL2⟩ := hrel
    obtain ⟨ov2, hov2⟩ : ∃ ov, ov = u3 := ⟨_, rfl⟩
    subst hov2
    have l52 : Later w5 wr := hT2.out.later hl5 (by simpa using hb5)
    have hz2 := hT2.out.size
    have hol : ∀ g, ov2.ownBlock = some g → base ≤ g := fun g hg => (HD2.out.own.lt g hg).1
    by_cases hlt : q < m
    ·obtain ⟨x, hx⟩ : ∃ x, ps[q]? = some x := ⟨_, List.getElem?_eq_getElem (by have := HPC.out.len; omega)⟩
     obtain ⟨b1, o1, A1, q1, s1, fi, hA1, hc1, hfi, ho1, _, _⟩ := HPC.out.at_ q x hx
     subst hA1
     have hcq : ∀ W' [Later wr W'], W'.cell? ⟨b1, o1 + q, none⟩ = some (.slice A1 q1 s1) := fun W' hW' => (l52.trans hW').cell hc1
     have HPI := Lib.hid (pcK_of hx)
     have HXP := Lib.hid (HPS.out x (List.mem_of_getElem? hx))
     have hbq := bit_nat (u := u) (a := q) (by omega)
     have hq64 : (q : Int) ≤ 64 := by omega
     have hql : (q : Int) < (m : Int) := by omega
     have ho := ho1.later l52
     have hp1 := ho1.lt
     have HFI := Lib.hid hfi
     have HAS := Lib.hid (aloneGo_snoc (pc := pcK ps) u q 0)
     by_cases c2 : u.testBit q = true
     ·rw [if_pos c2] at hbq
      have HLM3 : Hid (L2.map (·.2.1) = pairsGo (pcK ps) 0 BH ++ aloneGo (pcK ps) u 0 (q + 1)) := by show _ = _; rw [HAS.out, HLM2.out, if_pos (by rw [Nat.zero_add]; exact c2), List.append_nil]
      have HBU3 : Hid (BlkU base fps (fun j => u.testBit j = true ∨ j < q + 1) L2) := fun g hg => by
       rcases HBU2.out g hg with h9 | ⟨j, f, hj, hf, hgf⟩
       ·exact .inl h9
       ·exact .inr ⟨j, f, by rcases hj with hj | hj; exact .inl hj; exact .inr (by omega), hf, hgf⟩
      clear hx hc1 ho1 hfi ho hp1
      go_wp2
      go_roundw
      case rel => exact ⟨q + 1, L2, by omega, by go_num, HLM3, Lib.hid (HD2.out.later inferInstance), HBU3, HPO2, Lib.hid (hT2.out.trans (Touch.of_later inferInstance)), by omega⟩
      case measure => simp [intOf]; omega
     ·rw [if_neg c2] at hbq
      have hb8 : Blk (wr.alloc (.cells #[.slice A1 q1 s1] 66)) wr.heap.size 66 #[.slice A1 q1 s1] := Blk.new _ _ _
      have hrow := Lib.hid (duty_own1 hb8 (ho.later inferInstance))
      have hg1 := ho.lt
      have hdis := (nodup_at HPC.out.nd hfi hfi).1
      have HND : Hid ((wr.heap.size :: fi).Nodup) := List.nodup_cons.2 ⟨fun hm => by have := hg1 _ hm; omega, hdis⟩
      have HDJ : Hid (∀ g, g ∈ wr.heap.size :: fi → g ∉ blksD L2) := fun g hg hm => by
       rcases List.mem_cons.1 hg with rfl | hg
       ·have := HD2.out.lt _ hm; omega
       ·have hl5g := hp1 g hg
        rcases HBU2.out g hm with h9 | ⟨j, f, hj, hf, hgf⟩
        ·omega
        ·refine (nodup_at HPC.out.nd hfi hf).2 (fun e => ?_) g hg hgf
         rcases hj with hj | hj
         ·rw [← e] at hj; exact c2 hj
         ·omega
      have HOV : Hid (∀ g, ov2.ownBlock = some g → g ∉ wr.heap.size :: fi) := fun g hg hm => by
       have h9 := hol g hg
       have h10 := (HD2.out.own.lt g hg).2
       rcases List.mem_cons.1 hm with rfl | hm
       ·omega
       ·have := hp1 g hm; omega
      have hw8b : base ≤ wr.heap.size := by omega
      have hLn : L2.length ≤ 1073741824 := by omega
      have HLM3 : Hid ((L2 ++ [((.slice (some ⟨wr.heap.size, 0, none⟩) 1 1, [x], wr.heap.size :: fi) : DutE)]).map (·.2.1) = pairsGo (pcK ps) 0 BH ++ aloneGo (pcK ps) u 0 (q + 1)) := by
       show _ = _
       rw [HAS.out, List.map_append, HLM2.out, if_neg (by rw [Nat.zero_add]; exact c2), Nat.zero_add, HPI.out, List.append_assoc]; rfl
      have HBU3 : Hid (BlkU base fps (fun j => u.testBit j = true ∨ j < q + 1) (L2 ++ [((.slice (some ⟨wr.heap.size, 0, none⟩) 1 1, [x], wr.heap.size :: fi) : DutE)])) := fun g hg => by
       rw [blksD_app] at hg
       rcases List.mem_append.1 hg with hg | hg
       ·rcases HBU2.out g hg with h9 | ⟨j, f, hj, hf, hgf⟩
        ·exact .inl h9
        ·exact .inr ⟨j, f, by rcases hj with hj | hj; exact .inl hj; exact .inr (by omega), hf, hgf⟩
       ·simp only [blksD, List.map_cons, List.map_nil, List.flatten_cons, List.flatten_nil, List.append_nil] at hg
        rcases List.mem_cons.1 hg with rfl | hg
        ·exact .inl hw8b
        ·exact .inr ⟨q, fi, .inr (by omega), HFI.out, hg⟩
      have HPO3 : Hid (DutPos (L2 ++ [((.slice (some ⟨wr.heap.size, 0, none⟩) 1 1, [x], wr.heap.size :: fi) : DutE)])) := fun e he => by
       rcases List.mem_append.1 he with he | he
       ·exact HPO2.out e he
       ·rw [List.mem_singleton.1 he]
        exact ⟨by simp, by simpa using List.length_pos_iff.2 HXP.out⟩
      have HOL := Lib.hid hol
      clear hx hc1 ho1 hfi ho hp1 hb8 hg1 hdis
      go_wp2_with (at_builtin; go_loud (refine wpList_app_D rfl _ _ 55 rfl Tryz.underlying55 infoDt (by decide) (w1 := wr) (v := ov2) (by rfl) HD2.out inferInstance hw8b hrow.out HND.out HDJ.out HOV.out (by show Value.slice (some ⟨wr.heap.size + 1, 0, none⟩) 1 1 = _; simp) hLn ?_; intro v9 w9 hD9 hG9; have hT9 : Touch (ownL ov2) wr w9 := (Touch.of_later (inferInstance : Later wr (wr.alloc _))).trans (Touch.grownL hG9); have HD9 := Lib.hid hD9; have HT9 := Lib.hid hT9; clear hD9 hG9 hT9))
      have HTW9 : Hid (Touch [b] w w9) := ((hT2.out.mono (fq := b :: ownL ov2) (by simp)).trans (HT9.out.mono (by intro g hg; simp [hg]))).less (fun g hg hl => by
       rcases List.mem_cons.1 hg with rfl | hg
       ·simp
       ·have := HOL.out _ (ownL_mem hg); omega)
      go_roundw
      case rel => exact ⟨q + 1, _, by omega, by go_num, HLM3, Lib.hid (HD9.out.later inferInstance), HBU3, HPO3, Lib.hid (HTW9.out.trans (Touch.of_later inferInstance)), by rw [List.length_append]; simp; omega⟩
      case measure => simp [intOf]; omega
    ·have hqm : m = q := by omega
     subst hqm
     have hraw : L2.map (·.2.1) = rawD m A P ps := by rw [HLM2.out]; unfold rawD; rw [HBH.out, HUF.out]
     have hl8 : L2.length ≤ 8 := by have h9 := rawD_len m A P ps; rw [← hraw, List.length_map] at h9; omega
     have HLO : Hid (∀ g, g ∈ blksD L2 → lo ≤ g) := fun g hg => by
      rcases HBU2.out g hg with h9 | ⟨j, f, hj, hf, hgf⟩
      ·omega
      ·exact HPC.out.lo_ g (mem_flatten_at hf hgf)
     have HRES : Hid ((sortK keyE L2).map (fun x => Duty.mk x.2.1) = (sortK keyD (rawD m A P ps)).map Duty.mk) := by
      show _ = _
      rw [← hraw, ← sortK_map (key := keyD) (fun x : DutE => x.2.1) L2, List.map_map]
      rfl
     have hlob : lo ≤ base := by omega
     clear hraw
     rcases HD2.out.shape with ⟨rfl, rfl⟩ | ⟨g9, cap, rfl, hg9, hR9⟩
     ·go_wp2_with (go_at_call 103; refine slices_Sort0.mono ?_; rintro e w9 ⟨⟨v9, rfl⟩, L9⟩)
      go_ret
      exact ⟨none, 0, 0, [], rfl, by rw [← HRES.out]; exact OSl.nil_ _, by simp, by simp, hT2.out.trans (Touch.of_later (Later.trans inferInstance L9))⟩
     ·have HRD : Hid (∀ x, x ∈ L2 → DutRead wr g9 x) := fun x hx => by
       obtain ⟨A9, n9, c9, e9, o9⟩ := HD2.out.el x hx
       exact ⟨⟨A9, n9, c9, e9, o9⟩, fun hm => HD2.out.far g9 rfl (blksD_mem hx hm), (HPO2.out x hx).1, (HPO2.out x hx).2⟩
      have HR9 := Lib.hid hR9
      clear hR9
      go_wp2_with (go_at_call 103; go_loud (refine (slices_SortE HR9.out rfl hl8 HRD.out).mono ?_; rintro e w9 ⟨⟨v9, rfl⟩, hR10, hT10⟩; have HR10 := Lib.hid hR10; have HT10 := Lib.hid hT10; clear hR10 hT10))
      go_ret
      have hD10 := HD2.out.sorted HR10.out (sortK_perm L2) HT10.out
      obtain ⟨A9, c9, fp9, e9, o9, nd9, lo9⟩ := hD10.shut (lo := lo) (fun g hg => HLO.out g ((blksD_perm (sortK_perm L2)).mem_iff.1 hg)) hlob
      simp only [Value.slice.injEq] at e9
      obtain ⟨e91, e92, e93⟩ := e9
      subst e91 e93
      refine ⟨_, _, _, fp9, rfl, ?_, nd9, lo9, ?_⟩
      ·rw [← HRES.out]
       rw [sortK_len] at o9
       exact o9
      ·exact ((hT2.out.mono (fq := [b, g9]) (by simp)).trans (HT10.out.mono (by simp))).less (fun g hg hl => by
        simp at hg
        rcases hg with rfl | rfl
        ·simp
        ·omega)
end Go.Proofs.YtknhebakebmlcaaGreat
