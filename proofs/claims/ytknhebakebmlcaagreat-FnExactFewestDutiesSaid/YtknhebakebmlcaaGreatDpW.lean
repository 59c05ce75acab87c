/-
 FewestDuties: who drives behind whom, as the reference reads it from its plan (l13Plan.behind).
-/
import Derived.Test.YtknhebakebmlcaaGreatDpU
namespace Go.Proofs.YtknhebakebmlcaaGreat
open Go Go.RowKit
set_option linter.unusedVariables false
set_option maxRecDepth 100000
set_option linter.unusedSimpArgs false
def encO (m : Nat) : Option (Option Nat) → Int
 | some (some k) => (k : Int)
 | _ => (m : Int)
/-- The row of who is behind whom: m where nobody is. -/
def EncB (m : Nat) (b : List (Option Nat)) (cs : List Int) : Prop := cs.length = m ∧ ∀ t, t < m → cs[t]? = some (encO m b[t]?)
theorem EncB.none_ {m : Nat} {b : List (Option Nat)} {cs : List Int} (h : EncB m b cs) : EncB m (b ++ [none]) cs :=
 ⟨h.1, fun t ht => by
  rw [h.2 t ht]
  rcases Nat.lt_trichotomy t b.length with c | c | c
  ·rw [List.getElem?_append_left c]
  ·subst c; rw [List.getElem?_eq_none (Nat.le_refl _)]; simp [encO]
  ·rw [List.getElem?_eq_none (by omega), List.getElem?_eq_none (by simp; omega)]⟩
theorem EncB.some_ {m k : Nat} {b : List (Option Nat)} {cs : List Int} (h : EncB m b cs) (hb : b.length < m) : EncB m (b ++ [some k]) (cs.set b.length (k : Int)) :=
 ⟨by rw [List.length_set]; exact h.1, fun t ht => by
  rcases Nat.lt_trichotomy t b.length with c | c | c
  ·rw [List.getElem?_append_left c, List.getElem?_set_ne (by omega), h.2 t ht]
  ·subst c; rw [List.getElem?_set_self (by have := h.1; omega)]; simp [encO]
  ·rw [List.getElem?_set_ne (by omega), h.2 t ht, List.getElem?_eq_none (by omega), List.getElem?_eq_none (by simp; omega)]⟩
theorem EncB.at_ {m i : Nat} {b : List (Option Nat)} {cs : List Int} (h : EncB m b cs) (hb : b.length = i) (hi : i < m) : cs[i]? = some (m : Int) := by
 rw [h.2 i hi, List.getElem?_eq_none (by omega)]; rfl
/-- What holds when the first i pieces are settled. -/
structure BehI (m : Nat) (A : Nat → Int) (P : Nat → Nat → Int) (i u F : Nat) (pre : List (Option Nat)) : Prop where
 l : pre.length = i
 b : behGo m A P m 0 = pre ++ behGo m A P (m - i) u
 ul : u < 2 ^ m
 Fl : F < 2 ^ m
 f : ∀ j, j < m → u.testBit j = false → F.testBit j = decide (j < i)
 v : 0 ≤ valP (bI m A P (m - i) u)
section
variable {m i u F k : Nat} {A : Nat → Int} {P : Nat → Nat → Int} {pre : List (Option Nat)}
theorem BehI.start (h : 0 ≤ valP (bI m A P m 0)) : BehI m A P 0 0 0 [] :=
 ⟨rfl, rfl, Nat.two_pow_pos m, Nat.two_pow_pos m, fun j hj _ => by simp, h⟩
theorem BehI.next (h : BehI m A P i u F pre) (hi : i < m) : behGo m A P m 0 = (pre ++ [behO m A P (m - (i + 1)) u]) ++ behGo m A P (m - (i + 1)) (markP i u (behO m A P (m - (i + 1)) u)) := by
 rw [h.b]
 obtain ⟨r, hr⟩ : ∃ r, m = r + 1 + i := ⟨m - (i + 1), by omega⟩
 have e1 : m - i = r + 1 := by omega
 have e2 : m - (i + 1) = r := by omega
 have e3 : m - (r + 1) = i := by omega
 rw [e1, e2]
 simp only [behGo, e3, List.append_assoc, List.singleton_append]
theorem beh_done (hi : i < m) (h : u.testBit i = true) : behO m A P (m - (i + 1)) u = none := by
 unfold behO
 rw [List.find?_eq_none]
 intro k _
 unfold hitI mayP
 rw [show m - (m - (i + 1) + 1) = i by omega, h]
 simp
theorem bI_none (hi : i < m) (h : behO m A P (m - (i + 1)) u = none) : bI m A P (m - (i + 1)) u = bI m A P (m - i) u := by
 have := beh_none h
 rw [show m - (i + 1) + 1 = m - i by omega] at this
 exact this.symm
theorem BehI.done (h : BehI m A P i u F pre) (hi : i < m) (hb : u.testBit i = true) : BehI m A P (i + 1) u F (pre ++ [none]) ∧ bI m A P (m - (i + 1)) u = bI m A P (m - i) u := by
 have h0 := beh_done (A := A) (P := P) hi hb
 have h1 := h.next hi
 have h2 := bI_none hi h0
 rw [h0] at h1
 refine ⟨⟨by simp [h.l], h1, h.ul, h.Fl, fun j hj hj2 => ?_, by rw [h2]; exact h.v⟩, h2⟩
 rw [h.f j hj hj2, decide_eq_decide]
 have : j ≠ i := by rintro rfl; rw [hb] at hj2; cases hj2
 omega
theorem BehI.none_ (h : BehI m A P i u F pre) (hi : i < m) (h0 : behO m A P (m - (i + 1)) u = none) : BehI m A P (i + 1) u (F ||| 2 ^ i) (pre ++ [none]) ∧ bI m A P (m - (i + 1)) u = bI m A P (m - i) u := by
 have h1 := h.next hi
 have h2 := bI_none hi h0
 rw [h0] at h1
 refine ⟨⟨by simp [h.l], h1, h.ul, Nat.or_lt_two_pow h.Fl (Nat.pow_lt_pow_right (by omega) hi), fun j hj hj2 => ?_, by rw [h2]; exact h.v⟩, h2⟩
 rw [bit_or1, h.f j hj hj2]
 by_cases e : j = i
 ·subst e; simp
 ·have : ¬ i = j := fun h => e h.symm
  by_cases c : j < i
  ·rw [decide_eq_true c, decide_eq_true (show j < i + 1 by omega)]; simp
  ·rw [decide_eq_false c, decide_eq_false (show ¬ j < i + 1 by omega)]; simp [this, e]
theorem BehI.some_ (pin : PlanIn m A P) (h : BehI m A P i u F pre) (hi : i < m) (h0 : behO m A P (m - (i + 1)) u = some k) : BehI m A P (i + 1) (u ||| 2 ^ i ||| 2 ^ k) F (pre ++ [some k]) ∧ valP (bI m A P (m - (i + 1)) (u ||| 2 ^ i ||| 2 ^ k)) = valP (bI m A P (m - i) u) - 100000 - P i k ∧ k < m := by
 have h1 := h.next hi
 have hk := (beh_some h0).1
 rw [h0] at h1
 have h2 := beh_left pin.m8 (fun k => (pin.a k).2) (fun i k => (pin.p i k).2) (show m - (i + 1) + 1 ≤ m by omega) h.ul h0 (by rw [show m - (i + 1) + 1 = m - i by omega]; exact h.v)
 rw [show m - (m - (i + 1) + 1) = i by omega, show m - (i + 1) + 1 = m - i by omega] at h2
 refine ⟨⟨by simp [h.l], h1, or_lt2 h.ul hi hk, h.Fl, fun j hj hj2 => ?_, h2.2⟩, h2.1, hk⟩
 rw [bit_or1, bit_or1, Bool.or_eq_false_iff, Bool.or_eq_false_iff] at hj2
 rw [h.f j hj hj2.1.1, decide_eq_decide]
 have := hj2.1.2
 simp at this
 omega
theorem BehI.hit (pin : PlanIn m A P) (h : BehI m A P i u F pre) (hi : i < m) (hk : k < m) (hik : i ≠ k) (hbi : u.testBit i = false) (hbk : u.testBit k = false) : bothZ m A P F u i k = valP (bI m A P (m - i) u) ↔ hitI m A P (m - (i + 1)) u k = true := by
 have h2 := hit_same (F := F) (k := k) pin.m8 (fun k => (pin.a k).2) (fun i k => (pin.p i k).2) (show m - (i + 1) + 1 ≤ m by omega) h.ul (by rw [show m - (m - (i + 1) + 1) = i by omega]; exact h.f) (by rw [show m - (i + 1) + 1 = m - i by omega]; exact h.v) hk (by omega) (by rw [show m - (m - (i + 1) + 1) = i by omega]; exact hbi) hbk
 rw [show m - (m - (i + 1) + 1) = i by omega, show m - (i + 1) + 1 = m - i by omega] at h2
 exact h2
theorem BehI.ms (pin : PlanIn m A P) (h : BehI m A P i u F pre) (hi : i ≤ m) : mS m A P F u = valP (bI m A P (m - i) u) :=
 mS_val pin.m8 (fun k => (pin.a k).2) (fun i k => (pin.p i k).2) (by omega) h.ul (by rw [show m - (m - i) = i by omega]; exact h.f)
theorem BehI.end_ (h : BehI m A P m u F pre) : pre = behGo m A P m 0 := by
 have := h.b
 rw [Nat.sub_self] at this
 simpa [behGo] using this.symm
theorem hit_not (hi : i < m) (h : i = k ∨ u.testBit k = true) : hitI m A P (m - (i + 1)) u k = false := by
 unfold hitI mayP
 rw [show m - (m - (i + 1) + 1) = i by omega]
 rcases h with rfl | h
 ·simp
 ·rw [h]; simp
theorem behO_none (h : ∀ k, k < m → hitI m A P (m - (i + 1)) u k = false) : behO m A P (m - (i + 1)) u = none := by
 unfold behO
 rw [List.find?_eq_none]
 intro k hk
 rw [h k (List.mem_range.1 hk)]
 simp
theorem range_find {n k : Nat} {p : Nat → Bool} (hk : k < n) (hp : p k = true) (h : ∀ j, j < k → p j = false) : (List.range n).find? p = some k := by
 obtain ⟨d, rfl⟩ : ∃ d, n = k + 1 + d := ⟨n - (k + 1), by omega⟩
 rw [List.range_add, List.find?_append, List.range_succ, List.find?_append]
 rw [List.find?_eq_none.2 (fun j hj => by rw [h j (List.mem_range.1 hj)]; simp)]
 simp [hp]
theorem behO_some (hk : k < m) (hp : hitI m A P (m - (i + 1)) u k = true) (h : ∀ j, j < k → hitI m A P (m - (i + 1)) u j = false) : behO m A P (m - (i + 1)) u = some k := range_find hk hp h
end
theorem PlanB.later {tp : TypeId} {m : Nat} {A : Nat → Int} {P : Nat → Nat → Int} {W W' : World} {pv : Value} {aA qA : Option Addr} {ac qc px : Nat} {fa fq : List Nat} (h : PlanB tp m A P W pv aA ac qA qc px fa fq) (hl : Later W W') : PlanB tp m A P W' pv aA ac qA qc px fa fq := by
 obtain ⟨f0, kv, hx⟩ := h.x
 exact ⟨⟨f0, kv, hx.later hl⟩, h.a.later hl, h.q.later hl, h.xa, h.xq⟩
theorem PlanOK.far {tp tk : TypeId} {m : Nat} {A : Nat → Int} {P : Nat → Nat → Int} {F : Nat} {W : World} {pv : Value} {aA qA : Option Addr} {ac qc px gk : Nat} {fa fq : List Nat} (h : PlanOK tp tk m A P F W pv aA ac qA qc px gk fa fq) {g0 : Nat} (hx : px ≠ g0) (hk : gk ≠ g0) (ha : g0 ∉ fa) (hq : g0 ∉ fq) (j : Nat) (v : Value) : PlanOK tp tk m A P F (W.setCell ⟨g0, j, none⟩ v) pv aA ac qA qc px gk fa fq :=
 h.touch (fp := [g0]) (Touch.refl_.set_ List.mem_cons_self j v) (by simpa using hx) (by simpa using hk) (fun g hg hm => by rw [List.mem_singleton.1 hm] at hg; exact ha hg) (fun g hg hm => by rw [List.mem_singleton.1 hm] at hg; exact hq hg)
theorem Touch.add_ {W w w' : World} {px gk : Nat} (h : Touch [px] W w) (k : Touch [gk] w w') (hg : W.heap.size ≤ gk) : Touch [px] W w' :=
 ((h.mono (fq := [px, gk]) (by simp)).trans (k.mono (fq := [px, gk]) (by simp))).less (fun b hb hl => by
  simp only [List.mem_cons, List.not_mem_nil, or_false] at hb ⊢
  omega)
theorem Touch.add_set {W w : World} {px g : Nat} (h : Touch [px] W w) (hg : W.heap.size ≤ g) (j : Nat) (v : Value) : Touch [px] W (w.setCell ⟨g, j, none⟩ v) :=
 h.add_ (gk := g) (Touch.refl_.set_ List.mem_cons_self j v) hg
set_option maxHeartbeats 8000000 in
theorem spec_behind {m : Nat} {A : Nat → Int} {P : Nat → Nat → Int} (pin : PlanIn m A P) {W : World} {pA aA qA : Option Addr} {pc ac qc px : Nat} {fa fq : List Nat} (h : PlanB 107 m A P W (.slice pA m pc) aA ac qA qc px fa fq) (hv : 0 ≤ valP (bI m A P m 0)) :
  Calls Tryz.prog 66 #[.pointer (some ⟨px, 0, none⟩)] W (fun e W' => ∃ g cs, e = .returned (.slice (some ⟨g, 0, none⟩) m m) ∧ Blk W' g 3 (rowA cs) ∧ EncB m (behGo m A P m 0) cs ∧ Touch [px] W W' ∧ W.heap.size ≤ g ∧ PlanB 107 m A P W' (.slice pA m pc) aA ac qA qc px fa fq) := by
 have hm8 := pin.m8
 have h256 : 2 ^ m ≤ 256 := Nat.pow_le_pow_right (n := 2) (by omega) hm8
 obtain ⟨f0, kv, hx⟩ := h.x
 have hmk := make_ints m (by omega)
 have hxc : ∀ W' [Later W W'] (j : Nat), W'.cell? ⟨px, j, none⟩ = (#[.slice pA m pc, .slice aA m ac, .slice qA m qc, .int .i64 f0, kv] : Array Value)[j]? := fun W' hW' j => (hx.later hW').cell j
 have hxl := hx.lt
 have HFA : Hid (∀ g, g ∈ fa → g < W.heap.size) := h.a.lt
 have HFQ : Hid (∀ g, g ∈ fq → g < W.heap.size) := h.q.lt
 have HB := Lib.hid h
 have HV := Lib.hid hv
 clear hx h hv
 go_enter Tryz.func66, Tryz.ntmps66
 go_wp2_with (first
  | (go_at_call 90; go_loud (refine (plan_reset hm8 (HB.out.later inferInstance) 0 0 rfl).mono ?_; rintro e w5 ⟨rfl, gk, hX5, hT5, hg5⟩; have HX5 := Lib.hid hX5; have HT5 := Lib.hid hT5; have HG5 := Lib.hid hg5; have hx5 := hX5.xs; clear hX5 hT5 hg5))
  | (go_at_call 65; go_loud (refine ((cost_all pin (F := 0) (Nat.two_pow_pos m) (2 ^ m)).1 w5 0 0 rfl (Nat.two_pow_pos m) (Nat.le_trans (Nat.sub_le _ _) (Nat.sub_le _ _)) HX5.out).mono ?_; rintro e w6 ⟨rfl, hX6, hT6⟩; have HX6 := Lib.hid hX6; have HT6 := Lib.hid hT6; have hx6 := hX6.xs; clear hX6 hT6)))
 have HG0 := Lib.hid (show W.heap.size + 1 ≤ gk by have := HG5.out; simpa using this)
 have HOA := Blk.new W 3 (rowA (List.replicate m 0))
 have HO6 := Lib.hid (HT6.out.blk (HT5.out.blk HOA (by simp; omega)) (by have := HG0.out; simp; omega))
 have HTA : Hid (Touch [px] W w6) := ((Touch.of_later (Later.alloc_ (h := Later.rfl_) _)).trans HT5.out).add_ HT6.out (by have := HG0.out; omega)
 obtain ⟨g0, hg0⟩ : ∃ g0, g0 = W.heap.size := ⟨_, rfl⟩
 rw [← hg0] at HO6 HG0
 rw [← hg0]
 have HG : Hid (W.heap.size ≤ g0 ∧ px ≠ g0 ∧ g0 ∉ fa ∧ g0 ∉ fq) := ⟨by omega, by omega, fun hm => by have := HFA.out g0 hm; omega, fun hm => by have := HFQ.out g0 hm; omega⟩
 have HGK : Hid (g0 < gk) := HG0
 have HL0 := Lib.hid ((BehI.start HV.out).ms pin (Nat.zero_le m))
 rw [HL0.out, Nat.sub_zero]
 obtain ⟨l0, hl0⟩ : ∃ l0, l0 = valP (bI m A P m 0) := ⟨_, rfl⟩
 rw [← hl0]
 have HL := Lib.hid hl0
 clear HOA HT5 HT6 HX5 HG5 HG0 hg0 hl0 hx5 hx6 hxc hxl
 go_loopw [8] (fun av wr => ∃ (k : Nat) (cs : List Int), k ≤ m ∧ av = .int .i64 (k : Int) ∧ Hid (cs.length = m ∧ ∀ j, j < k → cs[j]? = some (m : Int)) ∧ Hid (PlanOK 107 3 m A P 0 wr (.slice pA m pc) aA ac qA qc px gk fa fq) ∧ Hid (Blk wr g0 3 (rowA cs)) ∧ Hid (Touch [px] W wr) ∧ Hid (g0 < gk)) (fun av _ => m - (intOf av).toNat)
 case atStart => exact ⟨0, _, by omega, rfl, Lib.hid ⟨by simp, fun j hj => by omega⟩, HX6, HO6, HTA, HGK⟩
 case round =>
  obtain ⟨k, cs, hk, rfl, hF, hX, hC, hT, hK⟩ := hrel
  have hcf : ∀ (j : Nat) W' [Later wr W'], W'.frozen? ⟨g0, j, none⟩ = false := fun j W' hW' => (hC.out.later hW').frozen j
  have hgl := hC.out.lt
  by_cases hlt : k < m
  ·obtain ⟨v, hv⟩ : ∃ v, cs[k]? = some v := ⟨_, List.getElem?_eq_getElem (by have := hF.out.1; omega)⟩
   have hvc := hC.out.rowAts hv
   have hki : (k : Int) < (m : Int) := by omega
   clear hv
   go_wp2
   go_roundw
   case rel => exact ⟨k + 1, cs.set k (m : Int), by omega, by go_num, Lib.hid (fill_step hF.out hlt), Lib.hid ((hX.out.far HG.out.2.1 (by have := hK.out; omega) HG.out.2.2.1 HG.out.2.2.2 k (.int .i64 (m : Int))).later inferInstance), Lib.hid ((hC.out.rowSet (m : Int)).later inferInstance), Lib.hid ((hT.out.add_set HG.out.1 k (.int .i64 (m : Int))).trans (Touch.of_later inferInstance)), hK⟩
   case measure => simp [intOf]; omega
  have hki : ¬ (k : Int) < (m : Int) := by omega
  have hkm : k = m := by omega
  have HE : Hid (EncB m [] cs) := ⟨hF.out.1, fun t ht => by rw [hF.out.2 t (by omega)]; rfl⟩
  clear hkm hcf hgl
  go_wp2_with fail
  go_loopw [5, 6, 7, 9] (fun dv fv lv iv wq => ∃ (i u F : Nat) (l : Int) (pre : List (Option Nat)) (cs : List Int) (gk : Nat), i ≤ m ∧ iv = .int .i64 (i : Int) ∧ dv = .int .i64 (u : Int) ∧ fv = .int .i64 (F : Int) ∧ lv = .int .i64 l ∧ Hid (l = valP (bI m A P (m - i) u)) ∧ Hid (BehI m A P i u F pre) ∧ Hid (EncB m pre cs) ∧ Hid (PlanOK 107 3 m A P F wq (.slice pA m pc) aA ac qA qc px gk fa fq) ∧ Hid (Blk wq g0 3 (rowA cs)) ∧ Hid (Touch [px] W wq) ∧ Hid (g0 < gk)) (fun _ _ _ iv _ => m - (intOf iv).toNat)
  case atStart => exact ⟨0, 0, 0, l0, [], cs, gk, by omega, rfl, rfl, rfl, rfl, HL, Lib.hid (BehI.start HV.out), HE, hX, hC, hT, hK⟩
  case round =>
   clear hX hC hT hK hki HE hF HGK HX6 HO6 HTA HL
   obtain ⟨i, u, F, l, pre, cs, gk, hi, rfl, rfl, rfl, rfl, hL, hI, hE, hX, hC, hT, hK⟩ := hrel
   have hul := hI.out.ul
   have hFl := hI.out.Fl
   have hwi : IntKind.i64.wrap ((i : Int) + 1) = (i : Int) + 1 := by rw [IntKind.wrap_i64]; omega
   by_cases hlt : i < m
   rotate_left
   ·have hii : ¬ (i : Int) < (m : Int) := by omega
    have HIM := Lib.hid (show i = m by omega)
    go_wp2
    go_ret
    have e := HIM.out
    subst e
    refine ⟨g0, rfl, cs, hC.out.later inferInstance, ?_, hT.out.trans (Touch.of_later inferInstance), HG.out.1, hX.out.base.later inferInstance⟩
    rw [← hI.out.end_]
    exact hE.out
   have hii : (i : Int) < (m : Int) := by omega
   have hbi := bit_nat (u := u) (a := i) (by omega)
   have hui := u64w (a := i) (by omega)
   have huin := u64n (a := i) (by omega)
   by_cases c1 : u.testBit i = true
   ·rw [if_pos c1] at hbi
    have H1 := Lib.hid (hI.out.done hlt c1)
    go_wp2
    go_roundw
    case rel => exact ⟨i + 1, u, F, l, pre ++ [none], cs, gk, by omega, by go_num, rfl, rfl, rfl, Lib.hid (by rw [H1.out.2]; exact hL.out), Lib.hid H1.out.1, Lib.hid hE.out.none_, Lib.hid (hX.out.later inferInstance), Lib.hid (hC.out.later inferInstance), Lib.hid (hT.out.trans (Touch.of_later inferInstance)), hK⟩
    case measure => simp [intOf]; omega
   rw [if_neg c1] at hbi
   have hc1 : u.testBit i = false := by simpa using c1
   have HC1 := Lib.hid hc1
   have hlb : -1 ≤ l ∧ l ≤ 30000000 := by have := mS_bd pin (F := F) hul; rw [hI.out.ms pin hi, ← hL.out] at this; exact this
   clear c1 hc1
   go_wp2_with fail
   go_loopw [10] (fun kv ws => ∃ k : Nat, k ≤ m ∧ kv = .int .i64 (k : Int) ∧ Hid (PlanOK 107 3 m A P F ws (.slice pA m pc) aA ac qA qc px gk fa fq) ∧ Hid (Touch [px] W ws) ∧ ((Hid (∀ j, j < k → hitI m A P (m - (i + 1)) u j = false) ∧ Hid (Blk ws g0 3 (rowA cs))) ∨ (∃ kk : Nat, kk < m ∧ Hid (behO m A P (m - (i + 1)) u = some kk) ∧ Hid (Blk ws g0 3 (rowA (cs.set i (kk : Int))))))) (fun kv _ => m - (intOf kv).toNat)
   case atStart => exact ⟨0, by omega, rfl, Lib.hid (hX.out.later inferInstance), Lib.hid (hT.out.trans (Touch.of_later inferInstance)), .inl ⟨Lib.hid (fun j hj => by omega), Lib.hid (hC.out.later inferInstance)⟩⟩
   case round =>
    clear hX hC hT
    obtain ⟨k, hk, rfl, hX, hT, hD⟩ := hrel
    have hxs := hX.out.xs
    have hbk := bit_nat (u := u) (a := k) (by omega)
    have huk := u64w (a := k) (by omega)
    have hukn := u64n (a := k) (by omega)
    rcases hD with ⟨hN, hC⟩ | ⟨kk, hkk, hS, hC⟩
    ·have hcf : ∀ (j : Nat) W' [Later wr W'], W'.frozen? ⟨g0, j, none⟩ = false := fun j W' hW' => (hC.out.later hW').frozen j
     have hco := hC.out.rowAts (hE.out.at_ hI.out.l hlt)
     by_cases hkl : k < m
     ·have hki : (k : Int) < (m : Int) := by omega
      by_cases c2 : k = i
      ·have HN2 : Hid (∀ j, j < k + 1 → hitI m A P (m - (i + 1)) u j = false) := Lib.hid fun j hj => by
        by_cases e : j = k
        ·subst e; exact hit_not hlt (.inl c2.symm)
        ·exact hN.out j (by omega)
       subst c2
       go_wp2
       go_roundw
       case rel => exact ⟨k + 1, by omega, by go_num, Lib.hid (hX.out.later inferInstance), Lib.hid (hT.out.trans (Touch.of_later inferInstance)), .inl ⟨HN2, Lib.hid (hC.out.later inferInstance)⟩⟩
       case measure => simp [intOf]; omega
      have hd1 := (beqi_f (show ¬ (k : Int) = (i : Int) by omega)).1
      have hd2 := (beqi_f (show ¬ (k : Int) = (i : Int) by omega)).2
      have hd3 : ¬ (k : Int) = (i : Int) := by omega
      by_cases c3 : u.testBit k = true
      ·rw [if_pos c3] at hbk
       have HN2 : Hid (∀ j, j < k + 1 → hitI m A P (m - (i + 1)) u j = false) := Lib.hid fun j hj => by
        by_cases e : j = k
        ·subst e; exact hit_not hlt (.inr c3)
        ·exact hN.out j (by omega)
       clear c3
       go_wp2
       go_roundw
       case rel => exact ⟨k + 1, by omega, by go_num, Lib.hid (hX.out.later inferInstance), Lib.hid (hT.out.trans (Touch.of_later inferInstance)), .inl ⟨HN2, Lib.hid (hC.out.later inferInstance)⟩⟩
       case measure => simp [intOf]; omega
      rw [if_neg c3] at hbk
      have hc3 : u.testBit k = false := by simpa using c3
      have H3 := Lib.hid (hI.out.hit pin hlt hkl (fun e => c2 e.symm) HC1.out hc3)
      rw [← hL.out] at H3
      obtain ⟨z, hz⟩ : ∃ z, bothZ m A P F u i k = z := ⟨_, rfl⟩
      rw [hz] at H3
      have HZ := Lib.hid hz
      clear hz c3 hc3
      by_cases c4 : z = l
      ·have HS : Hid (behO m A P (m - (i + 1)) u = some k) := Lib.hid (behO_some hkl (H3.out.1 c4) hN.out)
       subst c4
       go_wp2_with (go_at_call 91; go_loud (refine ((cost_all pin hFl (2 ^ m)).2 _ (u : Int) (i : Int) (k : Int) u i k rfl rfl rfl hul hlt hkl (Nat.le_trans (Nat.sub_le _ _) (Nat.sub_le _ _)) hX.out).mono ?_; rw [HZ.out]; rintro e w7 ⟨rfl, hX7, hT7⟩; have HX7 := Lib.hid hX7; have HC7 := Lib.hid (hT7.blk hC.out (by have := hK.out; simp; omega)); have HT7 := Lib.hid (hT.out.add_ hT7 (by have := hK.out; have := HG.out.1; omega)); have hcf7 : ∀ (j : Nat) W' [Later w7 W'], W'.frozen? ⟨g0, j, none⟩ = false := (fun j W' hW' => (HC7.out.later hW').frozen j); have hco7 := HC7.out.rowAts (hE.out.at_ hI.out.l hlt); clear hX7 hT7))
       go_roundw
       case rel => exact ⟨k + 1, by omega, by go_num, Lib.hid ((HX7.out.far HG.out.2.1 (by have := hK.out; omega) HG.out.2.2.1 HG.out.2.2.2 i (.int .i64 (k : Int))).later inferInstance), Lib.hid ((HT7.out.add_set HG.out.1 i (.int .i64 (k : Int))).trans (Touch.of_later inferInstance)), .inr ⟨k, hkl, HS, Lib.hid ((HC7.out.rowSet (k : Int)).later inferInstance)⟩⟩
       case measure => simp [intOf]; omega
      ·have HN2 : Hid (∀ j, j < k + 1 → hitI m A P (m - (i + 1)) u j = false) := Lib.hid fun j hj => by
        by_cases e : j = k
        ·subst e
         cases c : hitI m A P (m - (i + 1)) u j with
         | false => rfl
         | true => exact absurd (H3.out.2 c) c4
        ·exact hN.out j (by omega)
       have hz1 := (beqi_f c4).1
       have hz2 := (beqi_f c4).2
       go_wp2_with (go_at_call 91; go_loud (refine ((cost_all pin hFl (2 ^ m)).2 _ (u : Int) (i : Int) (k : Int) u i k rfl rfl rfl hul hlt hkl (Nat.le_trans (Nat.sub_le _ _) (Nat.sub_le _ _)) hX.out).mono ?_; rw [HZ.out]; rintro e w7 ⟨rfl, hX7, hT7⟩; have HX7 := Lib.hid hX7; have HC7 := Lib.hid (hT7.blk hC.out (by have := hK.out; simp; omega)); have HT7 := Lib.hid (hT.out.add_ hT7 (by have := hK.out; have := HG.out.1; omega)); have hcf7 : ∀ (j : Nat) W' [Later w7 W'], W'.frozen? ⟨g0, j, none⟩ = false := (fun j W' hW' => (HC7.out.later hW').frozen j); have hco7 := HC7.out.rowAts (hE.out.at_ hI.out.l hlt); clear hX7 hT7))
       go_roundw
       case rel => exact ⟨k + 1, by omega, by go_num, Lib.hid (HX7.out.later inferInstance), Lib.hid (HT7.out.trans (Touch.of_later inferInstance)), .inl ⟨HN2, Lib.hid (HC7.out.later inferInstance)⟩⟩
       case measure => simp [intOf]; omega
     ·have hki : ¬ (k : Int) < (m : Int) := by omega
      have hmm : ¬ (m : Int) < (m : Int) := by omega
      have HKM := Lib.hid (show k = m by omega)
      have HO : Hid (behO m A P (m - (i + 1)) u = none) := Lib.hid (behO_none fun j hj => hN.out j (by have := HKM.out; omega))
      have HI1 := Lib.hid (hI.out.none_ hlt HO.out)
      have hi12 : i < 12 := by omega
      obtain ⟨F1, hF1⟩ : ∃ F1, F1 = F ||| 2 ^ i := ⟨_, rfl⟩
      have hor1 := or_nat (u := F) (v := 2 ^ i) (by omega) (by have := pow12 hi12; omega)
      rw [← hF1] at hor1
      have hs1 := shl12 hi12
      rw [Int.one_mul] at hs1
      have hq3 : bits BinOp.or IntKind.i64 (F : Int) (IntKind.i64.wrap (2 ^ i)) = (F1 : Int) := by rw [hs1]; exact hor1
      have hq5 : bits BinOp.or IntKind.i64 (F : Int) (wrap64 (2 ^ i)) = (F1 : Int) := by rw [← wrap_64]; exact hq3
      have HF1 := Lib.hid hF1
      clear hF1 hor1 hs1
      go_wp2_with (go_at_call 90; go_loud (refine (plan_reset hm8 (hX.out.base) (F1 : Int) F1 rfl).mono ?_; rintro e w8 ⟨rfl, gk8, hX8, hT8, hg8⟩; have HX8 := Lib.hid hX8; have HT8 := Lib.hid hT8; have HG8 := Lib.hid hg8; have HC8 := Lib.hid (hT8.blk hC.out (by have := HG.out.2.1; simp; omega)); clear hX8 hT8 hg8))
      go_roundw
      case rel => exact ⟨i + 1, u, F1, l, pre ++ [none], cs, gk8, by omega, by go_num, rfl, rfl, rfl, Lib.hid (by rw [HI1.out.2]; exact hL.out), Lib.hid (by rw [HF1.out]; exact HI1.out.1), Lib.hid hE.out.none_, Lib.hid (HX8.out.later inferInstance), Lib.hid (HC8.out.later inferInstance), Lib.hid ((hT.out.trans HT8.out).trans (Touch.of_later inferInstance)), Lib.hid (by have := HG8.out; have := hC.out.lt; omega)⟩
      case measure => simp [intOf]; omega
    ·have hco := hC.out.rowAts (k := i) (v := (kk : Int)) (List.getElem?_set_self (by have := hE.out.1; omega))
     have hne := (beqi_f (show ¬ (kk : Int) = (m : Int) by omega)).1
     have hne2 : ¬ (kk : Int) = (m : Int) := by omega
     have hkki : (kk : Int) < (m : Int) := by omega
     obtain ⟨b, o, b', o', c', rfl, hq1, hq2⟩ := hX.out.qs hlt hkk
     obtain ⟨p, hp⟩ : ∃ p, p = P i kk := ⟨_, rfl⟩
     have hpb := pin.p i kk
     rw [← hp] at hq2 hpb
     have HP := Lib.hid hp
     have HI1 := Lib.hid (hI.out.some_ pin hlt hS.out)
     rw [← hL.out, ← hp] at HI1
     have hw1 : IntKind.i64.wrap (l - 100000) = l - 100000 := by rw [IntKind.wrap_i64]; omega
     have hw2 : IntKind.i64.wrap (l - 100000 - p) = l - 100000 - p := by rw [IntKind.wrap_i64]; omega
     have hi12 : i < 12 := by omega
     have hk12 : kk < 12 := by omega
     have hukk := u64w (a := kk) (by omega)
     have hukkn := u64n (a := kk) (by omega)
     obtain ⟨v1, hv1⟩ : ∃ v1, v1 = u ||| 2 ^ i := ⟨_, rfl⟩
     obtain ⟨v, hv⟩ : ∃ v, v = u ||| 2 ^ i ||| 2 ^ kk := ⟨_, rfl⟩
     rw [← hv] at HI1
     have hor1 := or_nat (u := u) (v := 2 ^ i) (by omega) (by have := pow12 hi12; omega)
     have hv1b : v1 < 4096 := by rw [hv1]; exact or12 (by omega) hi12
     have hor2 := or_nat (u := v1) (v := 2 ^ kk) (by omega) (by have := pow12 hk12; omega)
     rw [← hv1] at hor1 hv
     rw [← hv] at hor2
     have hs1 := shl12 hi12
     have hs2 := shl12 hk12
     rw [Int.one_mul] at hs1 hs2
     have hq3 : bits BinOp.or IntKind.i64 (u : Int) (IntKind.i64.wrap (2 ^ i)) = (v1 : Int) := by rw [hs1]; exact hor1
     have hq4 : bits BinOp.or IntKind.i64 (v1 : Int) (IntKind.i64.wrap (2 ^ kk)) = (v : Int) := by rw [hs2]; exact hor2
     have hq5 : bits BinOp.or IntKind.i64 (u : Int) (wrap64 (2 ^ i)) = (v1 : Int) := by rw [← wrap_64]; exact hq3
     have hq6 : bits BinOp.or IntKind.i64 (v1 : Int) (wrap64 (2 ^ kk)) = (v : Int) := by rw [← wrap_64]; exact hq4
     have HE1 := Lib.hid (hE.out.some_ (k := kk) (by rw [hI.out.l]; exact hlt))
     rw [hI.out.l] at HE1
     clear hp hv hv1 hor1 hor2 hs1 hs2
     by_cases hkl : k < m
     ·have hki : (k : Int) < (m : Int) := by omega
      go_wp2_with fail
      refine gO (S := (fun w' => Later wr w')) (by kernel_rfl) (by exact inferInstance) (fun _ _ _ _ _ h => h) (fun hHeld hZq => ?_)
      refine gT 0 rfl (by kernel_rfl) (by intro w' hSw; go_simp <;> rfl) hZq hHeld ?_; simp only [Act.put, sA, sZ, sS]
      refine gT 1 rfl (by kernel_rfl) (by intro w' hSw; go_simp <;> rfl) hZq hHeld ?_; simp only [Act.put, sA, sZ, sS]
      refine gT 2 rfl (by kernel_rfl) (by intro w' hSw; go_simp <;> rfl) hZq hHeld ?_; simp only [Act.put, sA, sZ, sS]
      refine gT 3 rfl (by kernel_rfl) (by intro w' hSw; go_simp <;> rfl) hZq hHeld ?_; simp only [Act.put, sA, sZ, sS]
      refine gT 4 rfl (by kernel_rfl) (by intro w' hSw; go_simp <;> rfl) hZq hHeld ?_; simp only [Act.put, sA, sZ, sS]
      refine gT 5 rfl (by kernel_rfl) (by intro w' hSw; go_simp <;> rfl) hZq hHeld ?_; simp only [Act.put, sA, sZ, sS]
      refine gT 6 rfl (by kernel_rfl) (by intro w' hSw; go_simp <;> rfl) hZq hHeld ?_; simp only [Act.put, sA, sZ, sS]
      refine gT 7 rfl (by kernel_rfl) (by intro w' hSw; go_simp <;> rfl) hZq hHeld ?_; simp only [Act.put, sA, sZ, sS]
      refine gT 8 rfl (by kernel_rfl) (by intro w' hSw; go_simp <;> rfl) hZq hHeld ?_; simp only [Act.put, sA, sZ, sS]
      refine gT 9 rfl (by kernel_rfl) (by intro w' hSw; go_simp <;> rfl) hZq hHeld ?_; simp only [Act.put, sA, sZ, sS]
      refine gT 10 rfl (by kernel_rfl) (by intro w' hSw; go_simp <;> rfl) hZq hHeld ?_; simp only [Act.put, sA, sZ, sS]
      refine gT 11 rfl (by kernel_rfl) (by intro w' hSw; go_simp <;> rfl) hZq hHeld ?_; simp only [Act.put, sA, sZ, sS]
      refine gT 12 rfl (by kernel_rfl) (by intro w' hSw; go_simp <;> rfl) hZq hHeld ?_; simp only [Act.put, sA, sZ, sS]
      refine gT 13 rfl (by kernel_rfl) (by intro w' hSw; go_simp <;> rfl) hZq hHeld ?_; simp only [Act.put, sA, sZ, sS]
      refine gT 14 rfl (by kernel_rfl) (by intro w' hSw; go_simp <;> rfl) hZq hHeld ?_; simp only [Act.put, sA, sZ, sS]
      refine gT 15 rfl (by kernel_rfl) (by intro w' hSw; go_simp <;> rfl) hZq hHeld ?_; simp only [Act.put, sA, sZ, sS]
      refine gT 16 rfl (by kernel_rfl) (by intro w' hSw; go_simp <;> rfl) hZq hHeld ?_; simp only [Act.put, sA, sZ, sS]
      refine wpAnyH_done (by kernel_rfl) ?_ _
      go_wp2_with fail
      go_roundw
      (case rel => exact ⟨i + 1, v, F, l - 100000 - p, pre ++ [some kk], cs.set i (kk : Int), gk, by omega, by go_num, rfl, rfl, rfl, Lib.hid HI1.out.2.1.symm, Lib.hid HI1.out.1, HE1, Lib.hid (hX.out.later inferInstance), Lib.hid (hC.out.later inferInstance), Lib.hid (hT.out.trans (Touch.of_later inferInstance)), hK⟩); (case measure => simp [intOf]; omega)
     ·have hki : ¬ (k : Int) < (m : Int) := by omega
      go_wp2_with fail
      refine gO (S := (fun w' => Later wr w')) (by kernel_rfl) (by exact inferInstance) (fun _ _ _ _ _ h => h) (fun hHeld hZq => ?_)
      refine gT 0 rfl (by kernel_rfl) (by intro w' hSw; go_simp <;> rfl) hZq hHeld ?_; simp only [Act.put, sA, sZ, sS]
      refine gT 1 rfl (by kernel_rfl) (by intro w' hSw; go_simp <;> rfl) hZq hHeld ?_; simp only [Act.put, sA, sZ, sS]
      refine gT 2 rfl (by kernel_rfl) (by intro w' hSw; go_simp <;> rfl) hZq hHeld ?_; simp only [Act.put, sA, sZ, sS]
      refine gT 3 rfl (by kernel_rfl) (by intro w' hSw; go_simp <;> rfl) hZq hHeld ?_; simp only [Act.put, sA, sZ, sS]
      refine gT 4 rfl (by kernel_rfl) (by intro w' hSw; go_simp <;> rfl) hZq hHeld ?_; simp only [Act.put, sA, sZ, sS]
      refine gT 5 rfl (by kernel_rfl) (by intro w' hSw; go_simp <;> rfl) hZq hHeld ?_; simp only [Act.put, sA, sZ, sS]
      refine gT 6 rfl (by kernel_rfl) (by intro w' hSw; go_simp <;> rfl) hZq hHeld ?_; simp only [Act.put, sA, sZ, sS]
      refine gT 7 rfl (by kernel_rfl) (by intro w' hSw; go_simp <;> rfl) hZq hHeld ?_; simp only [Act.put, sA, sZ, sS]
      refine gT 8 rfl (by kernel_rfl) (by intro w' hSw; go_simp <;> rfl) hZq hHeld ?_; simp only [Act.put, sA, sZ, sS]
      refine gT 9 rfl (by kernel_rfl) (by intro w' hSw; go_simp <;> rfl) hZq hHeld ?_; simp only [Act.put, sA, sZ, sS]
      refine gT 10 rfl (by kernel_rfl) (by intro w' hSw; go_simp <;> rfl) hZq hHeld ?_; simp only [Act.put, sA, sZ, sS]
      refine gT 11 rfl (by kernel_rfl) (by intro w' hSw; go_simp <;> rfl) hZq hHeld ?_; simp only [Act.put, sA, sZ, sS]
      refine gT 12 rfl (by kernel_rfl) (by intro w' hSw; go_simp <;> rfl) hZq hHeld ?_; simp only [Act.put, sA, sZ, sS]
      refine gT 13 rfl (by kernel_rfl) (by intro w' hSw; go_simp <;> rfl) hZq hHeld ?_; simp only [Act.put, sA, sZ, sS]
      refine gT 14 rfl (by kernel_rfl) (by intro w' hSw; go_simp <;> rfl) hZq hHeld ?_; simp only [Act.put, sA, sZ, sS]
      refine gT 15 rfl (by kernel_rfl) (by intro w' hSw; go_simp <;> rfl) hZq hHeld ?_; simp only [Act.put, sA, sZ, sS]
      refine gT 16 rfl (by kernel_rfl) (by intro w' hSw; go_simp <;> rfl) hZq hHeld ?_; simp only [Act.put, sA, sZ, sS]
      refine wpAnyH_done (by kernel_rfl) ?_ _
      go_wp2_with fail
      go_roundw
      (case rel => exact ⟨i + 1, v, F, l - 100000 - p, pre ++ [some kk], cs.set i (kk : Int), gk, by omega, by go_num, rfl, rfl, rfl, Lib.hid HI1.out.2.1.symm, Lib.hid HI1.out.1, HE1, Lib.hid (hX.out.later inferInstance), Lib.hid (hC.out.later inferInstance), Lib.hid (hT.out.trans (Touch.of_later inferInstance)), hK⟩); (case measure => simp [intOf]; omega)
end Go.Proofs.YtknhebakebmlcaaGreat
