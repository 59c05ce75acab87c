/-
 FewestDuties: a cutter in memory; the program's best price where a piece is behind another (cutter.followed).
-/
import Derived.Test.YtknhebakebmlcaaGreatDpM
namespace Go.Proofs.YtknhebakebmlcaaGreat
open Go Go.RowKit
set_option linter.unusedVariables false
set_option maxRecDepth 100000
set_option linter.unusedSimpArgs false
def prP (P : Nat → Nat → Int) (i k : Nat) : Int × Int := if 0 ≤ P i k then (1, P i k) else (nev, 0)
/-- Block g holds n prices. -/
def PrRow (W : World) (g n : Nat) (f : Nat → Int × Int) : Prop := ∃ t cs, Blk W g t cs ∧ ∀ k, k < n → cs[k * 2]? = some (.int .i64 (f k).1) ∧ cs[k * 2 + 1]? = some (.int .i64 (f k).2)
section
variable {W W' : World} {g n : Nat} {f : Nat → Int × Int} {fp : List Nat}
theorem PrRow.later (h : PrRow W g n f) (hl : Later W W') : PrRow W' g n f := let ⟨t, cs, h1, h2⟩ := h; ⟨t, cs, h1.later hl, h2⟩
theorem PrRow.touch (h : PrRow W g n f) (hT : Touch fp W W') (hg : g ∉ fp) : PrRow W' g n f := let ⟨t, cs, h1, h2⟩ := h; ⟨t, cs, hT.blk h1 hg, h2⟩
theorem PrRow.cell (h : PrRow W g n f) {k : Nat} (hk : k < n) : W.cell? ⟨g, k * 2, none⟩ = some (.int .i64 (f k).1) ∧ W.cell? ⟨g, k * 2 + 1, none⟩ = some (.int .i64 (f k).2) := by
 obtain ⟨t, cs, h1, h2⟩ := h
 exact ⟨(h1.cell _).trans (h2 k hk).1, (h1.cell _).trans (h2 k hk).2⟩
theorem PrRow.lt (h : PrRow W g n f) : g < W.heap.size := let ⟨_, _, h1, _⟩ := h; h1.lt
end
/-- What is read of a cutter: m pieces, the prices alone and in pairs, the memo's block b. -/
structure CutOK (tc : TypeId) (m : Nat) (A : Nat → Int) (P : Nat → Nat → Int) (W : World) (pv : Value) (gx gs gp b : Nat) (g : Nat → Nat) : Prop where
 x : Blk W gx tc #[pv, .slice (some ⟨gs, 0, none⟩) m m, .slice (some ⟨gp, 0, none⟩) m m, .map (some b)]
 s : PrRow W gs m (sgP A)
 p : ∃ t cs, Blk W gp t cs ∧ ∀ i, i < m → cs[i]? = some (.slice (some ⟨g i, 0, none⟩) m m)
 r : ∀ i, i < m → PrRow W (g i) m (prP P i)
 nx : gx ≠ b
 ns : gs ≠ b
 np : gp ≠ b
 nr : ∀ i, i < m → g i ≠ b
section
variable {tc : TypeId} {m : Nat} {A : Nat → Int} {P : Nat → Nat → Int} {W W' : World} {pv : Value} {gx gs gp b : Nat} {g : Nat → Nat}
theorem CutOK.touch {fp : List Nat} (h : CutOK tc m A P W pv gx gs gp b g) (hT : Touch fp W W') (hf : ∀ z, z ∈ fp → z = b ∨ W.heap.size ≤ z) : CutOK tc m A P W' pv gx gs gp b g := by
 have key : ∀ z, z < W.heap.size → z ≠ b → z ∉ fp := fun z h1 h2 h3 => by rcases hf z h3 with e | e; exact h2 e; omega
 obtain ⟨t, cs, p1, p2⟩ := h.p
 exact ⟨hT.blk h.x (key _ h.x.lt h.nx), h.s.touch hT (key _ h.s.lt h.ns), ⟨t, cs, hT.blk p1 (key _ p1.lt h.np), p2⟩, fun i hi => (h.r i hi).touch hT (key _ (h.r i hi).lt (h.nr i hi)), h.nx, h.ns, h.np, h.nr⟩
theorem CutOK.later (h : CutOK tc m A P W pv gx gs gp b g) (hl : Later W W') : CutOK tc m A P W' pv gx gs gp b g :=
 h.touch (fp := []) (Touch.of_later hl) (by simp)
theorem CutOK.xs (h : CutOK tc m A P W pv gx gs gp b g) : ∀ W' [Later W W'] (j : Nat), W'.cell? ⟨gx, j, none⟩ = (#[pv, .slice (some ⟨gs, 0, none⟩) m m, .slice (some ⟨gp, 0, none⟩) m m, .map (some b)] : Array Value)[j]? := fun W' hW' j => (h.x.later hW').cell j
theorem CutOK.ps (h : CutOK tc m A P W pv gx gs gp b g) {i : Nat} (hi : i < m) : ∀ W' [Later W W'], W'.cell? ⟨gp, i, none⟩ = some (.slice (some ⟨g i, 0, none⟩) m m) := fun W' hW' => by
 obtain ⟨t, cs, p1, p2⟩ := h.p
 exact ((p1.later hW').cell i).trans (p2 i hi)
theorem CutOK.rs (h : CutOK tc m A P W pv gx gs gp b g) {i k : Nat} (hi : i < m) (hk : k < m) : (∀ W' [Later W W'], W'.cell? ⟨g i, k * 2, none⟩ = some (.int .i64 (prP P i k).1)) ∧ (∀ W' [Later W W'], W'.cell? ⟨g i, k * 2 + 1, none⟩ = some (.int .i64 (prP P i k).2)) :=
 ⟨fun W' hW' => (((h.r i hi).later hW').cell hk).1, fun W' hW' => (((h.r i hi).later hW').cell hk).2⟩
theorem CutOK.ss (h : CutOK tc m A P W pv gx gs gp b g) {k : Nat} (hk : k < m) : (∀ W' [Later W W'], W'.cell? ⟨gs, k * 2, none⟩ = some (.int .i64 (sgP A k).1)) ∧ (∀ W' [Later W W'], W'.cell? ⟨gs, k * 2 + 1, none⟩ = some (.int .i64 (sgP A k).2)) :=
 ⟨fun W' hW' => ((h.s.later hW').cell hk).1, fun W' hW' => ((h.s.later hW').cell hk).2⟩
end
def memoB (m : Nat) (A : Nat → Int) (P : Nat → Nat → Int) (i u : Nat) : Int × Int := bI m A P (m - i) u
def NB : Nat → Nat
 | 0 => 1
 | r + 1 => 1 + 9 * NB r
theorem NB_le {r : Nat} (h : r ≤ 8) : NB r ≤ 100000000 := by
 have : ∀ m : Fin 9, NB m.val ≤ 100000000 := by decide
 exact this ⟨r, by omega⟩
/-- What is known of the numbers of a cutter. -/
structure CutIn (m : Nat) (A : Nat → Int) (P : Nat → Nat → Int) : Prop where
 m8 : m ≤ 8
 a : ∀ k, A k ≤ 4500
 p : ∀ i k, P i k ≤ 4500
theorem CutIn.bI_in {m : Nat} {A : Nat → Int} {P : Nat → Nat → Int} (h : CutIn m A P) {r u : Nat} (hr : r ≤ m) (hu : u < 2 ^ m) : PrIn r (bI m A P r u) := (bI_is h.m8 h.a h.p r hr u hu).1
theorem pow256 {m : Nat} (h : m ≤ 8) : 2 ^ m ≤ 256 := by
 have : 2 ^ m ≤ 2 ^ 8 := Nat.pow_le_pow_right (by omega) h
 omega
def folV (m : Nat) (A : Nat → Int) (P : Nat → Nat → Int) (r i k u : Nat) : (Int × Int) × Bool := if mayP P u i k = true then (pairP P (bI m A P r) i u k, true) else ((0, 0), false)
def BstC (m : Nat) (A : Nat → Int) (P : Nat → Nat → Int) (pv : Value) (gx gs gp b : Nat) (g : Nat → Nat) (r : Nat) : Prop := ∀ (W : World) (iv uv : Int) (i u cnt : Nat), iv = (i : Int) → uv = (u : Int) → i + r = m → u < 2 ^ m → CutOK 134 m A P W pv gx gs gp b g → MemoOK (memoB m A P) W b cnt → cnt + NB r ≤ 1000000000000000 →
 Calls Tryz.prog 74 #[.pointer (some ⟨gx, 0, none⟩), .int .i64 iv, .int .i64 uv] W (fun e W' => e = .returned (.agg #[.int .i64 (bI m A P r u).1, .int .i64 (bI m A P r u).2]) ∧ MemoOK (memoB m A P) W' b (cnt + NB r) ∧ Touch [b] W W')
def FolC (m : Nat) (A : Nat → Int) (P : Nat → Nat → Int) (pv : Value) (gx gs gp b : Nat) (g : Nat → Nat) (r : Nat) : Prop := ∀ (W : World) (iv kv uv : Int) (i k u cnt : Nat), iv = (i : Int) → kv = (k : Int) → uv = (u : Int) → i + (r + 1) = m → k < m → u < 2 ^ m → CutOK 134 m A P W pv gx gs gp b g → MemoOK (memoB m A P) W b cnt → cnt + NB r ≤ 1000000000000000 →
 Calls Tryz.prog 100 #[.pointer (some ⟨gx, 0, none⟩), .int .i64 iv, .int .i64 kv, .int .i64 uv] W (fun e W' => e = .returned (.tuple #[.agg #[.int .i64 (folV m A P r i k u).1.1, .int .i64 (folV m A P r i k u).1.2], .bool (folV m A P r i k u).2]) ∧ MemoOK (memoB m A P) W' b (cnt + NB r) ∧ Touch [b] W W')
set_option maxHeartbeats 8000000 in
theorem followed_step {m : Nat} {A : Nat → Int} {P : Nat → Nat → Int} {pv : Value} {gx gs gp b : Nat} {g : Nat → Nat} (ci : CutIn m A P) {r : Nat} (hb : BstC m A P pv gx gs gp b g r) : FolC m A P pv gx gs gp b g r := by
 intro W iv kv uv i k u cnt hiv hkv huv hir hk hu hX hM hc
 subst hiv hkv huv
 have hm8 := ci.m8
 have h256 := pow256 hm8
 have hi : i < m := by omega
 have hi12 : i < 12 := by omega
 have hk12 : k < 12 := by omega
 have hgx := hX.x.lt
 have hbW := hM.lt
 have hxs := hX.xs
 have hps := hX.ps hi
 obtain ⟨hr0, hr1⟩ := hX.rs hi hk
 have hbi := bit_nat (u := u) (a := i) (by omega)
 have hbk := bit_nat (u := u) (a := k) (by omega)
 by_cases c1 : i = k
 ·rw [show folV m A P r i k u = ((0, 0), false) from if_neg (by simp [mayP, c1])]
  subst c1
  go_enter Tryz.func100, Tryz.ntmps100
  go_wp2
  have hB := Blk.new W 110 #[.int .i64 0, .int .i64 0]
  have HF := (hB.set_ 0 (.int .i64 (0))).set_ 1 (.int .i64 (0))
  have hr0 := (HF.cell 0).trans (show _ = some (.int .i64 (0) : Value) from rfl)
  have hr1 := (HF.cell 1).trans (show _ = some (.int .i64 (0) : Value) from rfl)
  refine bodyPost_ret (v := .tuple #[.agg #[.int .i64 (0), .int .i64 (0)], .bool false]) (by simp [results, Tryz.results100, go_sem, hr0, hr1]) rfl ?_
  exact ⟨rfl, (hM.later inferInstance).mono (by omega), Touch.of_later inferInstance⟩
 have hdi : ¬ (i : Int) = (k : Int) := by omega
 have hd1 := (beqi_f hdi).1
 have hd2 := (beqi_f hdi).2
 by_cases c2 : u.testBit i = true
 ·rw [show folV m A P r i k u = ((0, 0), false) from if_neg (by simp [mayP, c2])]
  rw [if_pos c2] at hbi
  go_enter Tryz.func100, Tryz.ntmps100
  go_wp2
  have hB := Blk.new W 110 #[.int .i64 0, .int .i64 0]
  have HF := (hB.set_ 0 (.int .i64 (0))).set_ 1 (.int .i64 (0))
  have hr0 := (HF.cell 0).trans (show _ = some (.int .i64 (0) : Value) from rfl)
  have hr1 := (HF.cell 1).trans (show _ = some (.int .i64 (0) : Value) from rfl)
  refine bodyPost_ret (v := .tuple #[.agg #[.int .i64 (0), .int .i64 (0)], .bool false]) (by simp [results, Tryz.results100, go_sem, hr0, hr1]) rfl ?_
  exact ⟨rfl, (hM.later inferInstance).mono (by omega), Touch.of_later inferInstance⟩
 rw [if_neg c2] at hbi
 by_cases c3 : u.testBit k = true
 ·rw [show folV m A P r i k u = ((0, 0), false) from if_neg (by simp [mayP, c3])]
  rw [if_pos c3] at hbk
  go_enter Tryz.func100, Tryz.ntmps100
  go_wp2
  have hB := Blk.new W 110 #[.int .i64 0, .int .i64 0]
  have HF := (hB.set_ 0 (.int .i64 (0))).set_ 1 (.int .i64 (0))
  have hr0 := (HF.cell 0).trans (show _ = some (.int .i64 (0) : Value) from rfl)
  have hr1 := (HF.cell 1).trans (show _ = some (.int .i64 (0) : Value) from rfl)
  refine bodyPost_ret (v := .tuple #[.agg #[.int .i64 (0), .int .i64 (0)], .bool false]) (by simp [results, Tryz.results100, go_sem, hr0, hr1]) rfl ?_
  exact ⟨rfl, (hM.later inferInstance).mono (by omega), Touch.of_later inferInstance⟩
 rw [if_neg c3] at hbk
 by_cases c4 : 0 ≤ P i k
 rotate_left
 ·rw [show folV m A P r i k u = ((0, 0), false) from if_neg (by simp [mayP, c4])]
  rw [show prP P i k = (nev, 0) from if_neg c4] at hr0 hr1
  simp only [nev] at hr0 hr1
  go_enter Tryz.func100, Tryz.ntmps100
  go_wp2
  have hB := Blk.new W 110 #[.int .i64 0, .int .i64 0]
  have HF := (hB.set_ 0 (.int .i64 (0))).set_ 1 (.int .i64 (0))
  have hr0 := (HF.cell 0).trans (show _ = some (.int .i64 (0) : Value) from rfl)
  have hr1 := (HF.cell 1).trans (show _ = some (.int .i64 (0) : Value) from rfl)
  refine bodyPost_ret (v := .tuple #[.agg #[.int .i64 (0), .int .i64 (0)], .bool false]) (by simp [results, Tryz.results100, go_sem, hr0, hr1]) rfl ?_
  exact ⟨rfl, (hM.later inferInstance).mono (by omega), Touch.of_later inferInstance⟩
 have hmay : mayP P u i k = true := by simp [mayP, *]
 have hv : folV m A P r i k u = (pairP P (bI m A P r) i u k, true) := if_pos hmay
 rw [hv]
 rw [show prP P i k = (1, P i k) from if_pos c4] at hr0 hr1
 simp only at hr0 hr1 ⊢
 obtain ⟨v, hv2⟩ : ∃ v, v = u ||| 2 ^ i ||| 2 ^ k := ⟨_, rfl⟩
 obtain ⟨v1, hv1⟩ : ∃ v1, v1 = u ||| 2 ^ i := ⟨_, rfl⟩
 have hvl : v < 2 ^ m := by rw [hv2]; exact or_lt2 hu hi hk
 obtain ⟨c, hcd⟩ : ∃ c, bI m A P r v = c := ⟨_, rfl⟩
 obtain ⟨cc, dv⟩ := c
 have hin := ci.bI_in (r := r) (by omega) hvl
 rw [hcd] at hin
 obtain ⟨p, hp⟩ : ∃ p, p = P i k := ⟨_, rfl⟩
 have hpb := ci.p i k
 have hres : pairP P (bI m A P r) i u k = (1 + cc, p + dv) := by unfold pairP; rw [← hv2, hcd, hp]
 rw [hres]
 simp only
 rw [← hp] at hr1 c4 hpb
 have g1 := hin.c0
 have g2 := hin.c1
 have g3 := hin.d0
 have g4 := hin.d1
 simp only [nev] at g1 g2 g3 g4
 have hw1 : IntKind.i64.wrap (1 + cc) = 1 + cc := by rw [IntKind.wrap_i64]; omega
 have hw2 : IntKind.i64.wrap (p + dv) = p + dv := by rw [IntKind.wrap_i64]; omega
 have hor1 := or_nat (u := u) (v := 2 ^ i) (by omega) (by have := pow12 hi12; omega)
 have hv1b : v1 < 4096 := by rw [hv1]; exact or12 (by omega) hi12
 have hor2 := or_nat (u := v1) (v := 2 ^ k) (by omega) (by have := pow12 hk12; omega)
 rw [← hv1] at hor1 hv2
 rw [← hv2] at hor2
 have hs1 := shl12 hi12
 have hs2 := shl12 hk12
 have hq1 : bits BinOp.or IntKind.i64 (u : Int) (IntKind.i64.wrap (2 ^ i)) = (v1 : Int) := by
  rw [show IntKind.i64.wrap (2 ^ i) = ((2 ^ i : Nat) : Int) from by simpa using hs1]
  exact hor1
 have hq2 : bits BinOp.or IntKind.i64 (v1 : Int) (IntKind.i64.wrap (2 ^ k)) = (v : Int) := by
  rw [show IntKind.i64.wrap (2 ^ k) = ((2 ^ k : Nat) : Int) from by simpa using hs2]
  exact hor2
 have hq3 : bits BinOp.or IntKind.i64 (u : Int) (wrap64 (2 ^ i)) = (v1 : Int) := by rw [← wrap_64]; exact hq1
 have hq4 : bits BinOp.or IntKind.i64 (v1 : Int) (wrap64 (2 ^ k)) = (v : Int) := by rw [← wrap_64]; exact hq2
 have hwi : IntKind.i64.wrap ((i : Int) + 1) = (i : Int) + 1 := by rw [IntKind.wrap_i64]; omega
 have hil : (i : Int) < (m : Int) := by omega
 have hkl : (k : Int) < (m : Int) := by omega
 have hi64 : (i : Int) ≤ 64 := by omega
 have hk64 : (k : Int) ≤ 64 := by omega
 have HCD := Lib.hid hcd
 have HB := Lib.hid hb
 have HX := Lib.hid hX
 have HM := Lib.hid hM
 obtain ⟨Wa, hWa⟩ : ∃ Wa : World, Wa = W.alloc (.cells #[.int .i64 0, .int .i64 0] 110) := ⟨_, rfl⟩
 have hB : Blk Wa W.heap.size 110 #[.int .i64 0, .int .i64 0] := by rw [hWa]; exact Blk.new _ _ _
 haveI hLa : Later W Wa := by rw [hWa]; infer_instance
 have hXa := hX.later hLa
 have HXT : Hid (∀ W', Touch [b, W.heap.size] Wa W' → CutOK 134 m A P W' pv gx gs gp b g) := fun W' hT => hX.touch ((Touch.of_later hLa).trans hT) (by simp)
 have t0 : ∀ W', Touch [b, W.heap.size] Wa W' → ∀ j : Nat, W'.cell? ⟨gx, j, none⟩ = (#[pv, .slice (some ⟨gs, 0, none⟩) m m, .slice (some ⟨gp, 0, none⟩) m m, .map (some b)] : Array Value)[j]? := fun W' hT j => @CutOK.xs _ _ _ _ _ _ _ _ _ _ _ (HXT.out W' hT) W' Later.rfl_ j
 have t1 : ∀ W', Touch [b, W.heap.size] Wa W' → W'.cell? ⟨gp, i, none⟩ = some (.slice (some ⟨g i, 0, none⟩) m m) := fun W' hT => @CutOK.ps _ _ _ _ _ _ _ _ _ _ _ (HXT.out W' hT) _ hi W' Later.rfl_
 have hpe : prP P i k = (1, p) := by unfold prP; rw [← hp, if_pos c4]
 have t2 : ∀ W', Touch [b, W.heap.size] Wa W' → W'.cell? ⟨g i, k * 2, none⟩ = some (.int .i64 1) := fun W' hT => by
  have := @(CutOK.rs (HXT.out W' hT) hi hk).1 W' Later.rfl_
  rw [hpe] at this; exact this
 have t3 : ∀ W', Touch [b, W.heap.size] Wa W' → W'.cell? ⟨g i, k * 2 + 1, none⟩ = some (.int .i64 p) := fun W' hT => by
  have := @(CutOK.rs (HXT.out W' hT) hi hk).2 W' Later.rfl_
  rw [hpe] at this; exact this
 have HB0 := Lib.hid hB
 clear hv hmay hv2 hv1 hcd hin hp hres hb hX hM hB hXa hpe hor1 hor2 hs1 hs2
 go_enter Tryz.func100, Tryz.ntmps100
 go_wp2_with fail
 rw [← hWa]
 clear hWa
 refine gO (S := (fun w' => Touch [b, W.heap.size] Wa w')) (by kernel_rfl) (by first | exact Touch.of_later inferInstance | exact (Touch.of_later inferInstance).trans (hT8.mono (by simp)) | exact ((Touch.of_later inferInstance).trans (hT8.mono (by simp))).trans (Touch.of_later L9) | exact ((((Touch.of_later inferInstance).trans (hT8.mono (by simp))).trans (Touch.of_later L9)).set_ (by simp) _ _).set_ (by simp) _ _) (fun _ _ _ _ _ h => h) (fun hHeld hZq => ?_)
 refine gT 0 rfl (by kernel_rfl) (by intro w' hSw; go_simp <;> rfl) hZq hHeld ?_; simp only [Act.put, sA, sZ, sS]
 refine gT 1 rfl (by kernel_rfl) (by intro w' hSw; go_simp <;> rfl) hZq hHeld ?_; simp only [Act.put, sA, sZ, sS]
 refine gT 2 rfl (by kernel_rfl) (by intro w' hSw; go_simp <;> rfl) hZq hHeld ?_; simp only [Act.put, sA, sZ, sS]
 refine gT 3 rfl (by kernel_rfl) (by intro w' hSw; go_simp <;> rfl) hZq hHeld ?_; simp only [Act.put, sA, sZ, sS]
 refine gT 4 rfl (by kernel_rfl) (by intro w' hSw; go_simp <;> rfl) hZq hHeld ?_; simp only [Act.put, sA, sZ, sS]
 refine gT 5 rfl (by kernel_rfl) (by intro w' hSw; go_simp <;> rfl) hZq hHeld ?_; simp only [Act.put, sA, sZ, sS]
 refine gT 6 rfl (by kernel_rfl) (by intro w' hSw; go_simp <;> rfl) hZq hHeld ?_; simp only [Act.put, sA, sZ, sS]
 refine gT 7 rfl (by kernel_rfl) (by intro w' hSw; go_simp <;> rfl) hZq hHeld ?_; simp only [Act.put, sA, sZ, sS]
 refine gT 8 rfl (by kernel_rfl) (by intro w' hSw; go_simp <;> rfl) hZq hHeld ?_; simp only [Act.put, sA, sZ, sS]
 refine gT 9 rfl (by kernel_rfl) (by intro w' hSw; go_simp <;> rfl) hZq hHeld ?_; simp only [Act.put, sA, sZ, sS]
 refine gT 10 rfl (by kernel_rfl) (by intro w' hSw; go_simp <;> rfl) hZq hHeld ?_; simp only [Act.put, sA, sZ, sS]
 refine gT 11 rfl (by kernel_rfl) (by intro w' hSw; go_simp <;> rfl) hZq hHeld ?_; simp only [Act.put, sA, sZ, sS]
 refine gT 12 rfl (by kernel_rfl) (by intro w' hSw; go_simp <;> rfl) hZq hHeld ?_; simp only [Act.put, sA, sZ, sS]
 refine gT 13 rfl (by kernel_rfl) (by intro w' hSw; go_simp <;> rfl) hZq hHeld ?_; simp only [Act.put, sA, sZ, sS]
 refine gT 14 rfl (by kernel_rfl) (by intro w' hSw; go_simp <;> rfl) hZq hHeld ?_; simp only [Act.put, sA, sZ, sS]
 refine gT 15 rfl (by kernel_rfl) (by intro w' hSw; go_simp <;> rfl) hZq hHeld ?_; simp only [Act.put, sA, sZ, sS]
 refine gT 16 rfl (by kernel_rfl) (by intro w' hSw; go_simp <;> rfl) hZq hHeld ?_; simp only [Act.put, sA, sZ, sS]
 refine gT 17 rfl (by kernel_rfl) (by intro w' hSw; go_simp <;> rfl) hZq hHeld ?_; simp only [Act.put, sA, sZ, sS]
 refine gT 18 rfl (by kernel_rfl) (by intro w' hSw; go_simp <;> rfl) hZq hHeld ?_; simp only [Act.put, sA, sZ, sS]
 refine gT 19 rfl (by kernel_rfl) (by intro w' hSw; go_simp <;> rfl) hZq hHeld ?_; simp only [Act.put, sA, sZ, sS]
 refine gE 20 rfl (by kernel_rfl) (fun K hK => ?_)
 go_simp
 (go_at_call 74; go_loud (refine (HB.out Wa.drew ((i : Int) + 1) (v : Int) (i + 1) v cnt (by omega) rfl (by omega) hvl (HX.out.later inferInstance) (HM.out.later inferInstance) hc).mono ?_; rw [HCD.out]; rintro e w8 ⟨rfl, hM8, hT8⟩))
 refine hK.out _ _ (by first | exact Touch.of_later inferInstance | exact (Touch.of_later inferInstance).trans (hT8.mono (by simp)) | exact ((Touch.of_later inferInstance).trans (hT8.mono (by simp))).trans (Touch.of_later L9) | exact ((((Touch.of_later inferInstance).trans (hT8.mono (by simp))).trans (Touch.of_later L9)).set_ (by simp) _ _).set_ (by simp) _ _) (fun hHeld => ?_)
 try simp only [Act.put, sA, sZ, sS]
 refine gE 21 rfl (by kernel_rfl) (fun K hK => ?_)
 go_simp
 (go_at_call 99; go_loud (refine (impl_plus 1 p cc dv _ hw1 hw2).mono ?_; rintro e w9 ⟨rfl, L9⟩; have hT9 := ((Touch.of_later (inferInstance : Later Wa Wa.drew)).trans hT8).trans (Touch.of_later L9); have hB9 := hT9.blk HB0.out (by simp; omega); have hcr := fun i => hB9.cell i; have hfr := fun i => hB9.frozen i))
 refine hK.out _ _ (by first | exact Touch.of_later inferInstance | exact (Touch.of_later inferInstance).trans (hT8.mono (by simp)) | exact ((Touch.of_later inferInstance).trans (hT8.mono (by simp))).trans (Touch.of_later L9) | exact ((((Touch.of_later inferInstance).trans (hT8.mono (by simp))).trans (Touch.of_later L9)).set_ (by simp) _ _).set_ (by simp) _ _) (fun hHeld => ?_)
 try simp only [Act.put, sA, sZ, sS]
 refine gE 22 rfl (by kernel_rfl) (fun K hK => ?_)
 go_simp
 skip
 refine hK.out _ _ (by first | exact Touch.of_later inferInstance | exact (Touch.of_later inferInstance).trans (hT8.mono (by simp)) | exact ((Touch.of_later inferInstance).trans (hT8.mono (by simp))).trans (Touch.of_later L9) | exact ((((Touch.of_later inferInstance).trans (hT8.mono (by simp))).trans (Touch.of_later L9)).set_ (by simp) _ _).set_ (by simp) _ _) (fun hHeld => ?_)
 try simp only [Act.put, sA, sZ, sS]
 refine gT 23 rfl (by kernel_rfl) (by intro w' hSw; go_simp <;> rfl) hZq hHeld ?_; simp only [Act.put, sA, sZ, sS]
 refine wpAnyH_done (by kernel_rfl) ?_ _
 go_wp2
 have hB := hB9
 have HF := (hB.set_ 0 (.int .i64 (1 + cc))).set_ 1 (.int .i64 (p + dv))
 have hr0 := (HF.cell 0).trans (show _ = some (.int .i64 (1 + cc) : Value) from rfl)
 have hr1 := (HF.cell 1).trans (show _ = some (.int .i64 (p + dv) : Value) from rfl)
 refine bodyPost_ret (v := .tuple #[.agg #[.int .i64 (1 + cc), .int .i64 (p + dv)], .bool true]) (by simp [results, Tryz.results100, go_sem, hr0, hr1]) rfl ?_
 exact ⟨rfl, (hM8.later L9).touch (fp := [W.heap.size]) ((Touch.refl_.set_ (by simp) _ _).set_ (by simp) _ _) (by simp; omega), (((Touch.of_later hLa).trans hT9).new_ (Nat.le_refl _) _ _).new_ (Nat.le_refl _) _ _⟩
end Go.Proofs.YtknhebakebmlcaaGreat
