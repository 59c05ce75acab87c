/-
 FewestDuties: the memo (a map keyed by two numbers), bits of a set, comparing and adding prices.
-/
import Derived.Test.YtknhebakebmlcaaGreatDpP
import Derived.Test.YtknhebakebmlcaaGreatKb
import Derived.Maps.OwnSet
import Derived.Maps.Views
import Derived.WideKeyPair
import Derived.Laws.BitsLemmas
import Derived.Deep.RegionHeld3
namespace Go.Proofs.YtknhebakebmlcaaGreat
open Go Go.RowKit
set_option linter.unusedVariables false
set_option maxRecDepth 100000
set_option linter.unusedSimpArgs false
theorem wrap_64 (n : Int) : IntKind.i64.wrap n = wrap64 n := by rw [IntKind.wrap_i64]; unfold wrap64; rfl
theorem Touch.new_ {fp : List Nat} {w W : World} (h : Touch fp w W) {g : Nat} (hg : w.heap.size ≤ g) (o : Nat) (v : Value) : Touch fp w (W.setCell ⟨g, o, none⟩ v) :=
 ⟨h.os, h.tape, h.output, by simpa using h.size, fun k hk hn => (Below.heap_setCell W ⟨g, o, none⟩ v k (by show k ≠ g; omega)).trans (h.block k hk hn)⟩
theorem Touch.cells {fp : List Nat} {w : World} {g : Nat} {t : TypeId} {cs : Array Value} (h : Blk w g t cs) (hg : g ∉ fp) : ∀ W, Touch fp w W → ∀ j, W.cell? ⟨g, j, none⟩ = cs[j]? := fun W hT j => (hT.blk h hg).cell j
theorem Touch.less {fp fq : List Nat} {w W : World} (h : Touch fp w W) (hs : ∀ g, g ∈ fp → g < w.heap.size → g ∈ fq) : Touch fq w W :=
 ⟨h.os, h.tape, h.output, h.size, fun k hk hn => h.block k hk fun h' => hn (hs k h' hk)⟩
theorem Touch.grown {w W : World} {b : Nat} (h : w.grownBy W (some b)) : Touch [b] w W :=
 ⟨h.os, h.tape, h.output, h.size, fun k hk hn => h.block k hk fun e => hn (by cases e; simp)⟩
/-! ### Bits -/
theorem i64_nat (n : Int) (h0 : 0 ≤ n) (h1 : n < 2 ^ 62) : IntKind.i64.wrap n = n := by rw [IntKind.wrap_i64]; omega
theorem or_nat {u v : Nat} (hu : u < 2 ^ 62) (hv : v < 2 ^ 62) : bits .or .i64 (u : Int) (v : Int) = ((u ||| v : Nat) : Int) := (bits_nat .i64 62 (by decide) (fun n h0 h1 => i64_nat n h0 (by simpa using h1)) u v hu hv).2
theorem and_nat {u v : Nat} (hu : u < 2 ^ 62) (hv : v < 2 ^ 62) : bits .and .i64 (u : Int) (v : Int) = ((u &&& v : Nat) : Int) := (bits_nat .i64 62 (by decide) (fun n h0 h1 => i64_nat n h0 (by simpa using h1)) u v hu hv).1
theorem bit_nat {u a : Nat} (hu : u < 2 ^ 62) : bits .and .i64 ((u : Int) / 2 ^ a) 1 = if u.testBit a then 1 else 0 := by
 have h1 : (u : Int) / 2 ^ a = ((u / 2 ^ a : Nat) : Int) := by simp
 have h2 : u / 2 ^ a < 2 ^ 62 := Nat.lt_of_le_of_lt (Nat.div_le_self _ _) hu
 rw [h1, show (1 : Int) = ((1 : Nat) : Int) from rfl, and_nat h2 (by decide), Nat.and_one_is_mod, Nat.testBit_eq_decide_div_mod_eq]
 have := Nat.mod_two_eq_zero_or_one (u / 2 ^ a)
 rcases this with h | h <;> simp [h]
theorem pow12 {a : Nat} (h : a < 12) : 2 ^ a ≤ 2048 := by
 have : 2 ^ a ≤ 2 ^ 11 := Nat.pow_le_pow_right (by omega) (by omega)
 omega
theorem or12 {u a : Nat} (hu : u < 4096) (ha : a < 12) : u ||| 2 ^ a < 4096 := by
 have : 2 ^ a < 2 ^ 12 := Nat.pow_lt_pow_right (by omega) ha
 exact Nat.or_lt_two_pow (n := 12) hu this
theorem shl12 {a : Nat} (h : a < 12) : IntKind.i64.wrap (1 * 2 ^ a) = ((2 ^ a : Nat) : Int) := by
 have h1 := pow12 h
 have h2 : (1 : Int) * 2 ^ a = ((2 ^ a : Nat) : Int) := by simp
 rw [h2]
 generalize 2 ^ a = k at *
 rw [IntKind.wrap_i64]
 omega
theorem wf64 {x : Int} (h0 : 0 ≤ x) (h1 : x < 4611686018427387904) : (Lit.int .i64 x).wf = true := by
 simp [Lit.wf, IntKind.min, IntKind.max, IntKind.signed, IntKind.bits]; omega
/-! ### The memo -/
def dLk (c : Int × Int) : DataW Unit := .agg [.lit (.int .i64 c.1), .lit (.int .i64 c.2)]
theorem dLk_inj {c d : Int × Int} (h : dLk c = dLk d) : c = d := by
 unfold dLk at h
 obtain ⟨c1, c2⟩ := c
 obtain ⟨d1, d2⟩ := d
 simp at h
 rw [h.1, h.2]
def rLk (v : Value) : Option (DataW Unit × List MemPlace) :=
 match v with
 | .agg cs => (match cs.toList with
  | [.int .i64 a, .int .i64 b] => some (dLk (a, b), [])
  | _ => none)
 | _ => none
theorem rLk_inv {v : Value} {z : DataW Unit × List MemPlace} (h : rLk v = some z) : ∃ a b, v = .agg #[.int .i64 a, .int .i64 b] ∧ z = (dLk (a, b), []) := by
 unfold rLk at h
 split at h
 ·rename_i cs
  split at h
  ·rename_i a b e
   cases h
   exact ⟨a, b, congrArg Value.agg (Array.toList_inj.1 (by rw [e])), rfl⟩
  ·cases h
 ·cases h
def kLk (i u : Nat) : Lit := .string (keyBytes [.int .i64 i, .int .i64 u])
theorem prArr : WideMaps.ArrKey Tryz.prog 137 3 2 := ⟨Tryz.underlying137, by kernel_rfl, by kernel_rfl, by kernel_rfl⟩
theorem prKeyed : Maps.Keyed Tryz.prog 137 := Maps.Keyed.of_law prArr.law
theorem prKey {i u : Nat} (hi : i ≤ 12) (hu : u < 4096) : keyOf Tryz.prog 137 (.agg #[.int .i64 i, .int .i64 u]) = some (kLk i u) :=
 WideMaps.keyOf_pair prArr Tryz.underlying3 ⟨Tryz.prog.types.size - 1, by kernel_rfl⟩ (wf64 (by omega) (by omega)) (wf64 (by omega) (by omega))
theorem zeroLk (w : World) : (zeroValue 110).run Tryz.prog w = .ok (.agg #[.int .i64 0, .int .i64 0]) w := by kernel_rfl
/-- The memo's block: what it holds is right. -/
def MemoOK (F : Nat → Nat → Int × Int) (W : World) (b cnt : Nat) : Prop :=
 ∃ D : DataW Unit, W.ownsMap Tryz.prog 137 rLk b cnt D ∧ ∀ i u : Nat, i ≤ 12 → u < 4096 → Maps.has D (kLk i u) = true → D.atKey (kLk i u) (dLk (0, 0)) = dLk (F i u)
section
variable {F : Nat → Nat → Int × Int} {W W' : World} {b cnt : Nat}
theorem MemoOK.lt (h : MemoOK F W b cnt) : b < W.heap.size := let ⟨_, h1, _⟩ := h; h1.lt
theorem MemoOK.later (h : MemoOK F W b cnt) (hl : Later W W') : MemoOK F W' b cnt := by
 obtain ⟨D, h1, h2⟩ := h
 refine ⟨D, ?_, h2⟩
 have hlt := h1.lt
 obtain ⟨es, clock, hb, hF, hs, hD⟩ := h1
 exact ⟨es, clock, (hl.below.block b hlt).trans hb, hF, hs, hD⟩
theorem MemoOK.touch {fp : List Nat} (h : MemoOK F W b cnt) (hT : Touch fp W W') (hb : b ∉ fp) : MemoOK F W' b cnt := by
 obtain ⟨D, h1, h2⟩ := h
 refine ⟨D, ?_, h2⟩
 have hlt := h1.lt
 obtain ⟨es, clock, hb', hF, hs, hD⟩ := h1
 exact ⟨es, clock, (hT.block b hlt hb).trans hb', hF, hs, hD⟩
theorem MemoOK.mono (h : MemoOK F W b cnt) {c2 : Nat} (hc : cnt ≤ c2) : MemoOK F W b c2 := by
 obtain ⟨D, h1, h2⟩ := h
 exact ⟨D, h1.mono hc, h2⟩
theorem MemoOK.made (F : Nat → Nat → Int × Int) (W : World) : MemoOK F (W.alloc (.map #[] 0)) W.heap.size 0 := by
 refine ⟨.map [], World.ownsMap_made W _ _ _, fun i u hi hu h => ?_⟩
 simp [Maps.has] at h
theorem MemoOK.look (h : MemoOK F W b cnt) {i u : Nat} (hi : i ≤ 12) (hu : u < 4096) :
  ∃ c d ok, (∀ W' [Later W W'], (Instr.lookup 132 (.map (some b)) (.agg #[.int .i64 i, .int .i64 u]) true).run Tryz.prog W' = .ok (.tuple #[.agg #[.int .i64 c, .int .i64 d], .bool ok]) W') ∧ (ok = true → (c, d) = F i u) := by
 obtain ⟨D, h1, h2⟩ := h
 obtain ⟨v, ps, hrun, hv⟩ := h1.look_ok prKeyed Tryz.underlying132 (zeroLk W) (zd := dLk (0, 0)) (zp := []) rfl (prKey hi hu)
 obtain ⟨c, d, rfl, hz⟩ := rLk_inv hv
 simp only [Prod.mk.injEq] at hz
 refine ⟨c, d, Maps.has D (kLk i u), fun W' hW' => ?_, fun hok => ?_⟩
 ·have h3 : W'.ownsMap Tryz.prog 137 rLk b cnt D := by
   have hlt := h1.lt
   obtain ⟨es, clock, hb, hF, hs, hD⟩ := h1
   exact ⟨es, clock, (hW'.below.block b hlt).trans hb, hF, hs, hD⟩
  obtain ⟨v', ps', hrun', hv'⟩ := h3.look_ok prKeyed Tryz.underlying132 (zeroLk W') (zd := dLk (0, 0)) (zp := []) rfl (prKey hi hu)
  obtain ⟨c', d', rfl, hz'⟩ := rLk_inv hv'
  simp only [Prod.mk.injEq] at hz'
  have h4 := dLk_inj (hz.1.symm.trans hz'.1)
  cases h4
  exact hrun'
 ·exact dLk_inj (hz.1.symm.trans (h2 i u hi hu hok))
theorem prk_inj {i u i' u' : Nat} (hi : i ≤ 12) (hu : u < 4096) (hi' : i' ≤ 12) (hu' : u' < 4096) (h : kLk i u = kLk i' u') : i = i' ∧ u = u' := by
 have h1 := prKey hi hu
 have h2 := prKey hi' hu'
 rw [h] at h1
 have h3 := prKeyed.inj h1 h2
 simp at h3
 omega
theorem MemoOK.put (h : MemoOK F W b cnt) {i u : Nat} (hi : i ≤ 12) (hu : u < 4096) (hc : cnt < maxLen) :
  ∃ w', (Instr.mapUpdate 132 (.map (some b)) (.agg #[.int .i64 i, .int .i64 u]) (.agg #[.int .i64 (F i u).1, .int .i64 (F i u).2])).run Tryz.prog W = .ok () w' ∧ MemoOK F w' b (cnt + 1) ∧ W.grownBy w' (some b) := by
 obtain ⟨D, h1, h2⟩ := h
 obtain ⟨w', hrun, h3, h4⟩ := h1.update prKeyed Tryz.underlying132 hc (prKey hi hu) (val := .agg #[.int .i64 (F i u).1, .int .i64 (F i u).2]) (d := dLk (F i u)) (ps := []) rfl
 refine ⟨w', hrun, ⟨_, h3, fun i' u' hi' hu' hk => ?_⟩, h4⟩
 by_cases e : kLk i' u' = kLk i u
 ·obtain ⟨rfl, rfl⟩ := prk_inj hi' hu' hi hu e
  exact Maps.atKey_put_same h1.isMap (prKeyed.key (prKey hi hu)) _ _
 ·rw [Maps.atKey_put_other e]
  rw [Maps.has_put_other e] at hk
  exact h2 i' u' hi' hu' hk
end
/-! ### Comparing prices -/
def prC (x y : Int × Int) : Int := orI [cmpI x.1 y.1, cmpI x.2 y.2]
theorem prC_lt (x y : Int × Int) : prC x y < 0 ↔ (x.1 < y.1 ∨ (x.1 = y.1 ∧ x.2 < y.2)) := by
 unfold prC cmpI
 simp only [orI]
 split <;> split <;> (try split) <;> (try split) <;> omega
theorem prC_eq (x y : Int × Int) : prC x y = 0 ↔ x = y := by
 obtain ⟨a, b⟩ := x
 obtain ⟨c, d⟩ := y
 unfold prC cmpI
 simp only [orI, Prod.mk.injEq]
 split <;> split <;> (try split) <;> (try split) <;> omega
theorem cmpI_64k (a b : Int) : I64 (cmpI a b) := by unfold cmpI I64; split <;> (try split) <;> omega
theorem ints_lit2k {W : World} {g : Nat} {t : TypeId} {x y : Int} (h : W.heap[g]? = some (.cells #[.int .i64 x, .int .i64 y] t (0, 0))) (hx : I64 x) (hy : I64 y) : Ints W (some ⟨g, 0, none⟩) 2 2 [x, y] := by
 have ho := OSl.ints_blk (w := W) (g := g) (t := t) (cs := #[.int .i64 x, .int .i64 y]) (l := [x, y]) (n := 2) h rfl (by omega) (fun k z hz => by
  match k, hz with
  | 0, hz => simp at hz; subst hz; exact ⟨rfl, hx⟩
  | 1, hz => simp at hz; subst hz; exact ⟨rfl, hy⟩)
 exact ho.reads
set_option maxHeartbeats 800000 in
theorem impl_comparePrices (a b c d : Int) (w : World) : Calls Tryz.prog 75 #[.agg #[.int .i64 a, .int .i64 b], .agg #[.int .i64 c, .int .i64 d]] w (Ret (.int .i64 (prC (a, b) (c, d))) w) := by
 have HB0 : ∀ W [Later ((w.alloc (.cells #[.int .i64 a, .int .i64 b] 110)).alloc (.cells #[.int .i64 c, .int .i64 d] 110)) W] (j : Nat), W.cell? ⟨w.heap.size, j, none⟩ = #[.int .i64 a, .int .i64 b][j]? := Later.boxes (t := 110) (fr := (0, 0)) ((heap_old (by simp; try omega)).trans (heap_new (by simp; try omega))); have HB1 : ∀ W [Later ((w.alloc (.cells #[.int .i64 a, .int .i64 b] 110)).alloc (.cells #[.int .i64 c, .int .i64 d] 110)) W] (j : Nat), W.cell? ⟨w.heap.size + 1, j, none⟩ = #[.int .i64 c, .int .i64 d][j]? := Later.boxes (t := 110) (fr := (0, 0)) (heap_new (by simp; try omega)); obtain ⟨wb, hwb⟩ : ∃ wb : World, wb = ((w.alloc (.cells #[.int .i64 a, .int .i64 b] 110)).alloc (.cells #[.int .i64 c, .int .i64 d] 110)) := ⟨_, rfl⟩; haveI hbW : Later wb ((w.alloc (.cells #[.int .i64 a, .int .i64 b] 110)).alloc (.cells #[.int .i64 c, .int .i64 d] 110)) := (by rw [hwb]; exact Later.rfl_); haveI hww : Later w wb := (by rw [hwb]; infer_instance); rw [← hwb] at HB0; rw [← hwb] at HB1; have hbE := Lib.hid (congrArg (fun x : World => x.heap.size) hwb); clear hwb
 have HV : Hid (orI [cmpI a c, cmpI b d] = prC (a, b) (c, d)) := rfl
 clear hbE
 go_enter Tryz.func75, Tryz.ntmps75
 go_wp2_with fail
 refine gO (S := (fun w' => Later wb w')) (by kernel_rfl) (by exact inferInstance) (fun _ _ _ _ _ h => h) (fun hHeld hZq => ?_)
 refine gT 0 rfl (by kernel_rfl) (by intro w' hSw; go_simp <;> rfl) hZq hHeld ?_; simp only [Act.put, sA, sZ, sS]
 refine gT 1 rfl (by kernel_rfl) (by intro w' hSw; go_simp <;> rfl) hZq hHeld ?_; simp only [Act.put, sA, sZ, sS]
 refine gT 2 rfl (by kernel_rfl) (by intro w' hSw; go_simp <;> rfl) hZq hHeld ?_; simp only [Act.put, sA, sZ, sS]
 refine gT 3 rfl (by kernel_rfl) (by intro w' hSw; go_simp <;> rfl) hZq hHeld ?_; simp only [Act.put, sA, sZ, sS]
 refine gT 5 rfl (by kernel_rfl) (by intro w' hSw; go_simp <;> rfl) hZq hHeld ?_; simp only [Act.put, sA, sZ, sS]
 refine gT 6 rfl (by kernel_rfl) (by intro w' hSw; go_simp <;> rfl) hZq hHeld ?_; simp only [Act.put, sA, sZ, sS]
 refine gT 7 rfl (by kernel_rfl) (by intro w' hSw; go_simp <;> rfl) hZq hHeld ?_; simp only [Act.put, sA, sZ, sS]
 refine gT 8 rfl (by kernel_rfl) (by intro w' hSw; go_simp <;> rfl) hZq hHeld ?_; simp only [Act.put, sA, sZ, sS]
 refine gE 4 rfl (by kernel_rfl) (fun K hK => ?_)
 go_simp
 (go_at_call 102; (refine (cmp_Compare a c _).mono ?_; rintro e w' ⟨rfl, rfl⟩))
 refine hK.out _ _ (by exact inferInstance) (fun hHeld => ?_)
 try simp only [Act.put, sA, sZ, sS]
 refine gE 9 rfl (by kernel_rfl) (fun K hK => ?_)
 go_simp
 (go_at_call 102; (refine (cmp_Compare b d _).mono ?_; rintro e w' ⟨rfl, rfl⟩))
 refine hK.out _ _ (by exact inferInstance) (fun hHeld => ?_)
 try simp only [Act.put, sA, sZ, sS]
 refine gE 10 rfl (by kernel_rfl) (fun K hK => ?_)
 go_simp
 skip
 refine hK.out _ _ (by exact inferInstance) (fun hHeld => ?_)
 try simp only [Act.put, sA, sZ, sS]
 refine gE 11 rfl (by kernel_rfl) (fun K hK => ?_)
 go_simp
 (go_at_call 101; (refine (cmp_Or (ints_lit2k (t := 3) (by exact heap_new (by first | rfl | simp)) (cmpI_64k _ _) (cmpI_64k _ _)) Later.rfl_).mono ?_; rw [HV.out]; rintro e w4 ⟨rfl, L4⟩; have X4 := Later.trans (w := wb) inferInstance L4))
 refine hK.out _ _ (by exact inferInstance) (fun hHeld => ?_)
 try simp only [Act.put, sA, sZ, sS]
 refine gT 12 rfl (by kernel_rfl) (by intro w' hSw; go_simp <;> rfl) hZq hHeld ?_; simp only [Act.put, sA, sZ, sS]
 refine wpAnyH_done (by kernel_rfl) ?_ _
 go_wp2
 go_ret
 exact ⟨rfl, hww.trans inferInstance⟩
set_option maxHeartbeats 400000 in
theorem impl_plus (a b c d : Int) (w : World) (h1 : IntKind.i64.wrap (a + c) = a + c) (h2 : IntKind.i64.wrap (b + d) = b + d) : Calls Tryz.prog 99 #[.agg #[.int .i64 a, .int .i64 b], .agg #[.int .i64 c, .int .i64 d]] w (Ret (.agg #[.int .i64 (a + c), .int .i64 (b + d)]) w) := by
 go_enter Tryz.func99, Tryz.ntmps99
 go_wp2
 have hB := Blk.new ((w.alloc (.cells #[.int .i64 a, .int .i64 b] 110)).alloc (.cells #[.int .i64 c, .int .i64 d] 110)) 110 #[.int .i64 (a + c), .int .i64 (b + d)]
 have hr0 := (hB.cell 0).trans (show _ = some (.int .i64 (a + c) : Value) from rfl)
 have hr1 := (hB.cell 1).trans (show _ = some (.int .i64 (b + d) : Value) from rfl)
 rw [show ((w.alloc (.cells #[.int .i64 a, .int .i64 b] 110)).alloc (.cells #[.int .i64 c, .int .i64 d] 110)).heap.size = w.heap.size + 1 + 1 by simp] at hr0 hr1
 refine bodyPost_ret (v := .agg #[.int .i64 (a + c), .int .i64 (b + d)]) (by simp [results, Tryz.results99, go_sem, hr0, hr1]) rfl ?_
 exact ⟨rfl, inferInstance⟩
end Go.Proofs.YtknhebakebmlcaaGreat
