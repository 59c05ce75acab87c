/-
 FewestDuties: the program's best price (cutter.best), by what is left.
-/
import Derived.Test.YtknhebakebmlcaaGreatDpB
namespace Go.Proofs.YtknhebakebmlcaaGreat
open Go Go.RowKit
set_option linter.unusedVariables false
set_option maxRecDepth 100000
set_option linter.unusedSimpArgs false
section
variable (m : Nat) (A : Nat → Int) (P : Nat → Nat → Int)
def bAt (r i u k : Nat) : Int × Int := ((List.range m).take k).foldl (bStep P (bI m A P r) i u) (bI m A P r u)
end
section
variable {m : Nat} {A : Nat → Int} {P : Nat → Nat → Int}
theorem bAt_zero {r i u : Nat} : bAt m A P r i u 0 = bI m A P r u := rfl
theorem bAt_end {r i u : Nat} (h : i + (r + 1) = m) : bAt m A P r i u m = bI m A P (r + 1) u := by
 unfold bAt
 rw [List.take_of_length_le (by simp)]
 simp only [bI]
 rw [show m - (r + 1) = i by omega]
theorem bAt_step {r i u k : Nat} (hk : k < m) : bAt m A P r i u (k + 1) = bStep P (bI m A P r) i u (bAt m A P r i u k) k := by
 unfold bAt
 rw [List.take_add_one, List.getElem?_range hk, List.foldl_append]
 rfl
theorem bStep_no {r i u k : Nat} {c : Int × Int} (h : (folV m A P r i k u).2 = false ∨ ¬ prC (folV m A P r i k u).1 c < 0) : bStep P (bI m A P r) i u c k = c := by
 unfold bStep
 rw [if_neg]
 rintro ⟨h1, h2⟩
 unfold folV at h
 rw [if_pos h1] at h
 rcases h with h | h
 ·cases h
 ·exact h ((prC_lt _ _).2 h2)
theorem bStep_yes {r i u k : Nat} {c : Int × Int} (h1 : (folV m A P r i k u).2 = true) (h2 : prC (folV m A P r i k u).1 c < 0) : bStep P (bI m A P r) i u c k = (folV m A P r i k u).1 := by
 unfold bStep
 unfold folV at h1 h2 ⊢
 by_cases hm : mayP P u i k = true
 ·rw [if_pos hm] at h2 ⊢
  rw [if_pos ⟨hm, (prC_lt _ _).1 h2⟩]
 ·rw [if_neg hm] at h1; cases h1
end
def sg1 (A : Nat → Int) (u k : Nat) : Int := sumQ (openV (fun k => (sgP A k).1) u) k
def sg2 (A : Nat → Int) (u k : Nat) : Int := sumQ (openV (fun k => (sgP A k).2) u) k
set_option maxHeartbeats 8000000 in
theorem best_zero {m : Nat} {A : Nat → Int} {P : Nat → Nat → Int} {pA : Option Addr} {pc gx gs gp b : Nat} {g : Nat → Nat} (ci : CutIn m A P) : BstC m A P (.slice pA m pc) gx gs gp b g 0 := by
 intro W iv uv i u cnt hiv huv hir hu hX hM hc
 subst hiv huv
 have hm8 := ci.m8
 have h256 := pow256 hm8
 have him : m = i := by omega
 subst him
 have e0 : memoB m A P m u = bI m A P 0 u := by unfold memoB; rw [Nat.sub_self]
 obtain ⟨Wa, hWa⟩ : ∃ Wa : World, Wa = W.alloc (.cells #[.int .i64 0, .int .i64 0] 110) := ⟨_, rfl⟩
 have hB : Blk Wa W.heap.size 110 #[.int .i64 0, .int .i64 0] := by rw [hWa]; exact Blk.new _ _ _
 haveI hLa : Later W Wa := by rw [hWa]; infer_instance
 have hxs : ∀ W' [Later W W'] (j : Nat), W'.cell? ⟨gx, j, none⟩ = (#[.slice pA m pc, .slice (some ⟨gs, 0, none⟩) m m, .slice (some ⟨gp, 0, none⟩) m m, .map (some b)] : Array Value)[j]? := hX.xs
 have hgx := hX.x.lt
 have hbW := hM.lt
 obtain ⟨Wb, hWb⟩ : ∃ Wb : World, Wb = Wa.alloc (.cells #[.int .i64 m, .int .i64 u] 137) := ⟨_, rfl⟩
 have hKy : Blk Wb (W.heap.size + 1) 137 #[.int .i64 m, .int .i64 u] := by rw [hWb, hWa]; have h9 := Blk.new (W.alloc (.cells #[.int .i64 0, .int .i64 0] 110)) 137 #[.int .i64 m, .int .i64 u]; simpa using h9
 have hsb : Hid (Wb.heap.size = W.heap.size + 2) := by show _ = _; rw [hWb, hWa]; simp
 haveI hLb : Later Wa Wb := by rw [hWb]; infer_instance
 haveI hLw : Later W Wb := hLa.trans hLb
 have hBby := hB.later hLb
 have hKc : ∀ W' [Later Wb W'] (j : Nat), W'.cell? ⟨W.heap.size + 1, j, none⟩ = (#[.int .i64 m, .int .i64 u] : Array Value)[j]? := fun W' hW' j => (hKy.later hW').cell j
 obtain ⟨c0, d0, ok, hlook, hok⟩ := hM.look (i := m) (u := u) (by omega) (by omega)
 have HM := Lib.hid hM
 have HX := Lib.hid hX
 clear hM hX
 cases ok with
 | true =>
  have e2 := e0
  have e1 := hok rfl
  rw [← e2, ← e1]
  clear e1 e2 hok
  go_enter Tryz.func74, Tryz.ntmps74
  go_wp2_with fail
  rw [← hWa, ← hWb]
  have hBc : ∀ W' [Later Wb W'] (j : Nat), W'.cell? ⟨W.heap.size, j, none⟩ = (#[.int .i64 0, .int .i64 0] : Array Value)[j]? := fun W' hW' j => (hBby.later hW').cell j
  have hBf : ∀ W' [Later Wb W'] (j : Nat), W'.frozen? ⟨W.heap.size, j, none⟩ = false := fun W' hW' j => (hBby.later hW').frozen j
  clear hWa hWb
  refine gO (S := (fun w' => Later Wb w' ∧ Later W w')) (by kernel_rfl) (by exact ⟨inferInstance, inferInstance⟩) (fun _ _ _ _ _ h => h) (fun hHeld hZq => ?_)
  refine gT 0 rfl (by kernel_rfl) (by intro w' hSw; go_simp <;> rfl) hZq hHeld ?_; simp only [Act.put, sA, sZ, sS]
  refine gT 1 rfl (by kernel_rfl) (by intro w' hSw; go_simp <;> rfl) hZq hHeld ?_; simp only [Act.put, sA, sZ, sS]
  refine gT 2 rfl (by kernel_rfl) (by intro w' hSw; go_simp <;> rfl) hZq hHeld ?_; simp only [Act.put, sA, sZ, sS]
  refine gT 3 rfl (by kernel_rfl) (by intro w' hSw; go_simp <;> rfl) hZq hHeld ?_; simp only [Act.put, sA, sZ, sS]
  refine gT 4 rfl (by kernel_rfl) (by intro w' hSw; go_simp <;> rfl) hZq hHeld ?_; simp only [Act.put, sA, sZ, sS]
  refine gT 5 rfl (by kernel_rfl) (by intro w' hSw; go_simp <;> rfl) hZq hHeld ?_; simp only [Act.put, sA, sZ, sS]
  refine gT 6 rfl (by kernel_rfl) (by intro w' hSw; go_simp <;> rfl) hZq hHeld ?_; simp only [Act.put, sA, sZ, sS]
  refine gT 7 rfl (by kernel_rfl) (by intro w' hSw; go_simp <;> rfl) hZq hHeld ?_; simp only [Act.put, sA, sZ, sS]
  refine gT 8 rfl (by kernel_rfl) (by intro w' hSw; go_simp <;> rfl) hZq hHeld ?_; simp only [Act.put, sA, sZ, sS]
  refine gE 9 rfl (by kernel_rfl) (fun K hK => ?_)
  go_simp
  skip
  refine hK.out _ _ (by exact ⟨inferInstance, inferInstance⟩) (fun hHeld => ?_)
  try simp only [Act.put, sA, sZ, sS]
  refine gE 10 rfl (by kernel_rfl) (fun K hK => ?_)
  go_simp
  skip
  refine hK.out _ _ (by exact ⟨inferInstance, inferInstance⟩) (fun hHeld => ?_)
  try simp only [Act.put, sA, sZ, sS]
  refine gT 11 rfl (by kernel_rfl) (by intro w' hSw; go_simp <;> rfl) hZq hHeld ?_; simp only [Act.put, sA, sZ, sS]
  refine wpAnyH_done (by kernel_rfl) ?_ _
  go_wp2
  have hB := hBby.alloc (.cells #[.int .i64 c0, .int .i64 d0] 110)
  have HF := (hB.set_ 0 (.int .i64 (c0))).set_ 1 (.int .i64 (d0))
  have hr0 := (HF.cell 0).trans (show _ = some (.int .i64 (c0) : Value) from rfl)
  have hr1 := (HF.cell 1).trans (show _ = some (.int .i64 (d0) : Value) from rfl)
  refine bodyPost_ret (v := .agg #[.int .i64 (c0), .int .i64 (d0)]) (by simp [results, Tryz.results74, go_sem, hr0, hr1]) rfl ?_
  exact ⟨rfl, (HM.out.later inferInstance).mono (by omega), Touch.of_later inferInstance⟩
 | false =>
  have hNB : NB 0 = 1 := rfl
  rw [hNB] at hc ⊢
  have E0 := Lib.hid e0
  have HA := Lib.hid ci.a
  clear e0
  go_enter Tryz.func74, Tryz.ntmps74
  go_wp2_with fail
  rw [← hWa, ← hWb]
  clear hWa hWb
  refine gO (S := (fun w' => Later Wb w' ∧ Later W w')) (by kernel_rfl) (by exact ⟨inferInstance, inferInstance⟩) (fun _ _ _ _ _ h => h) (fun hHeld hZq => ?_)
  refine gT 0 rfl (by kernel_rfl) (by intro w' hSw; go_simp <;> rfl) hZq hHeld ?_; simp only [Act.put, sA, sZ, sS]
  refine gT 1 rfl (by kernel_rfl) (by intro w' hSw; go_simp <;> rfl) hZq hHeld ?_; simp only [Act.put, sA, sZ, sS]
  refine gT 2 rfl (by kernel_rfl) (by intro w' hSw; go_simp <;> rfl) hZq hHeld ?_; simp only [Act.put, sA, sZ, sS]
  refine gT 3 rfl (by kernel_rfl) (by intro w' hSw; go_simp <;> rfl) hZq hHeld ?_; simp only [Act.put, sA, sZ, sS]
  refine gT 4 rfl (by kernel_rfl) (by intro w' hSw; go_simp <;> rfl) hZq hHeld ?_; simp only [Act.put, sA, sZ, sS]
  refine gT 5 rfl (by kernel_rfl) (by intro w' hSw; go_simp <;> rfl) hZq hHeld ?_; simp only [Act.put, sA, sZ, sS]
  refine gT 6 rfl (by kernel_rfl) (by intro w' hSw; go_simp <;> rfl) hZq hHeld ?_; simp only [Act.put, sA, sZ, sS]
  refine gT 7 rfl (by kernel_rfl) (by intro w' hSw; go_simp <;> rfl) hZq hHeld ?_; simp only [Act.put, sA, sZ, sS]
  refine gT 8 rfl (by kernel_rfl) (by intro w' hSw; go_simp <;> rfl) hZq hHeld ?_; simp only [Act.put, sA, sZ, sS]
  refine gE 9 rfl (by kernel_rfl) (fun K hK => ?_)
  go_simp
  skip
  refine hK.out _ _ (by exact ⟨inferInstance, inferInstance⟩) (fun hHeld => ?_)
  try simp only [Act.put, sA, sZ, sS]
  refine gE 10 rfl (by kernel_rfl) (fun K hK => ?_)
  go_simp
  skip
  refine hK.out _ _ (by exact ⟨inferInstance, inferInstance⟩) (fun hHeld => ?_)
  try simp only [Act.put, sA, sZ, sS]
  refine gT 11 rfl (by kernel_rfl) (by intro w' hSw; go_simp <;> rfl) hZq hHeld ?_; simp only [Act.put, sA, sZ, sS]
  refine wpAnyH_done (by kernel_rfl) ?_ _
  obtain ⟨wq, hwq⟩ : ∃ w : World, w = (Wb.alloc (.cells #[.int .i64 c0, .int .i64 d0] 110)).drew := ⟨_, rfl⟩
  have hsq : Hid (wq.heap.size = W.heap.size + 3) := by show _ = _; rw [hwq]; simp [hsb.out]
  haveI hLq : Later Wb wq := by rw [hwq]; infer_instance
  haveI hLr : Later W wq := hLw.trans hLq
  rw [← hwq]
  have hBq := Lib.hid (hBby.later hLq)
  have hKq := Lib.hid (hKy.later hLq)
  clear hwq hlook hok hKc hKy hBby hB
  go_wp2_with fail
  obtain ⟨Wc, hWc⟩ : ∃ w : World, w = wq.alloc (.cells #[.int .i64 0, .int .i64 0] 110) := ⟨_, rfl⟩
  rw [← hWc]
  haveI hLc : Later wq Wc := by rw [hWc]; infer_instance
  have hP0 : Blk Wc wq.heap.size 110 #[.int .i64 0, .int .i64 0] := by rw [hWc]; exact Blk.new _ _ _
  obtain ⟨pb, hpb⟩ : ∃ pb, pb = wq.heap.size := ⟨_, rfl⟩
  rw [← hpb] at hP0 ⊢
  have HPB : Hid (pb = W.heap.size + 3) := by show _ = _; rw [hpb, hsq.out]
  clear hWc hpb
  go_loopw [42] (fun kv wr => ∃ k : Nat, k ≤ m ∧ kv = .int .i64 (k : Int) ∧ Hid (Blk wr pb 110 #[.int .i64 (sg1 A u k), .int .i64 (sg2 A u k)]) ∧ Hid (Touch [pb] Wc wr)) (fun kv _ => m - (intOf kv).toNat)
  case atStart => exact ⟨0, by omega, rfl, Lib.hid hP0, Lib.hid Touch.refl_⟩
  case round =>
   obtain ⟨k, hk, rfl, hP1, hT⟩ := hrel
   have hTr : Touch [b, pb] W wr := ((Touch.of_later (hLr.trans hLc)).trans hT.out).mono (by simp)
   have hXr := HX.out.touch hTr (by simp; have := HPB.out; omega)
   have hMr := (HM.out.later (hLr.trans hLc)).touch hT.out (by simp; have := HPB.out; omega)
   have hBr := hT.out.blk (hBq.out.later hLc) (by simp; have := HPB.out; omega)
   have hKr := hT.out.blk (hKq.out.later hLc) (by simp; have := HPB.out; omega)
   obtain ⟨cu, hcu⟩ : ∃ cu, cu = sg1 A u k := ⟨_, rfl⟩
   obtain ⟨du, hdu⟩ : ∃ du, du = sg2 A u k := ⟨_, rfl⟩
   have hPr := hP1.out
   rw [← hcu, ← hdu] at hPr
   by_cases hlt : k < m
   ·obtain ⟨hs0, hs1⟩ := hXr.ss hlt
    obtain ⟨x, hx⟩ : ∃ x, x = (sgP A k).1 := ⟨_, rfl⟩
    obtain ⟨y, hy⟩ : ∃ y, y = (sgP A k).2 := ⟨_, rfl⟩
    rw [← hx] at hs0
    rw [← hy] at hs1
    have hbk := bit_nat (u := u) (a := k) (by omega)
    have hk64 : (k : Int) ≤ 64 := by omega
    obtain ⟨q1, q2, q3, q4, q5⟩ := sg_in HA.out u k
    have hxb : 0 ≤ x ∧ x ≤ 1073741824 ∧ 0 ≤ y ∧ y ≤ 4500 := by
     rw [hx, hy]
     have := HA.out k
     rcases sg_or A k with ⟨h, e⟩ | h
     ·rw [e]; simp only; omega
     ·rw [h]; simp [nev]
    have hcb : 0 ≤ cu ∧ cu ≤ 9000000000 ∧ 0 ≤ du ∧ du ≤ 40000 := by
     have hn : (k : Int) * nev ≤ 8 * nev := Int.mul_le_mul_of_nonneg_right (by omega) (by decide)
     have hne : nev = 1073741824 := rfl
     rw [hcu, hdu]
     unfold sg1 sg2
     rw [hne] at hn
     rw [hne] at q2
     generalize (k : Int) * 1073741824 = z at *
     omega
    clear q1 q2 q3 q4 q5
    have hw1 : IntKind.i64.wrap (cu + x) = cu + x := by rw [IntKind.wrap_i64]; omega
    have hw2 : IntKind.i64.wrap (du + y) = du + y := by rw [IntKind.wrap_i64]; omega
    have hpc : ∀ W' [Later wr W'] (j : Nat), W'.cell? ⟨pb, j, none⟩ = (#[.int .i64 cu, .int .i64 du] : Array Value)[j]? := fun W' hW' j => (hPr.later hW').cell j
    have hpf : ∀ W' [Later wr W'] (j : Nat), W'.frozen? ⟨pb, j, none⟩ = false := fun W' hW' j => (hPr.later hW').frozen j
    have hxr := hXr.xs
    have HT := hT
    by_cases c2 : u.testBit k = true
    ·rw [if_pos c2] at hbk
     have h1 : Hid (sg1 A u (k + 1) = cu) := by show _ = _; rw [hcu]; unfold sg1; simp [sumQ, openV, c2]
     have h2 : Hid (sg2 A u (k + 1) = du) := by show _ = _; rw [hdu]; unfold sg2; simp [sumQ, openV, c2]
     have HPr := Lib.hid hPr
     clear hcu hdu hx hy c2 hT hPr hTr hXr hMr hBr hKr hP1
     go_wp2
     go_roundw
     case rel => exact ⟨k + 1, by omega, by go_num, Lib.hid (by rw [h1.out, h2.out]; exact HPr.out.later inferInstance), Lib.hid (HT.out.trans (Touch.of_later inferInstance))⟩
     case measure => simp [intOf]; omega
    ·rw [if_neg c2] at hbk
     have h1 : Hid (sg1 A u (k + 1) = cu + x) := by show _ = _; rw [hcu, hx]; unfold sg1; simp [sumQ, openV, c2]
     have h2 : Hid (sg2 A u (k + 1) = du + y) := by show _ = _; rw [hdu, hy]; unfold sg2; simp [sumQ, openV, c2]
     have HPr := Lib.hid hPr
     clear hcu hdu hx hy c2 hT hPr hTr hXr hMr hBr hKr hP1
     go_wp2_with (go_at_call 99; go_loud (refine (impl_plus cu du x y _ hw1 hw2).mono ?_; rintro e w8 ⟨rfl, L8⟩; have Z8 := Later.trans (w := wr) inferInstance L8))
     go_roundw
     case rel => exact ⟨k + 1, by omega, by go_num, Lib.hid (by rw [h1.out, h2.out]; exact ((HPr.out.later Z8).set_ 0 _).set_ 1 _), Lib.hid (((HT.out.trans (Touch.of_later Z8)).set_ (by simp) _ _).set_ (by simp) _ _)⟩
     case measure => simp [intOf]; omega
   ·have hkm : m = k := by omega
    subst hkm
    have HEND : Hid ((cu, du) = bI m A P 0 u) := by show _ = _; rw [hcu, hdu]; rfl
    have e2 : memoB m A P m u = (cu, du) := by rw [E0.out, HEND.out]
    have hcnb : Hid (cnt + 1 ≤ cnt + 1) := Nat.le_refl _
    have hcm : cnt < maxLen := by unfold maxLen; omega
    have HPBo : W.heap.size + 3 ≤ pb := Nat.le_of_eq HPB.out.symm
    clear hcu hdu hP1 hT
    obtain ⟨w9, hrn, hM9, hG9⟩ := (hMr.later (inferInstance : Later wr wr.drew)).put (i := m) (u := u) (by omega) (by omega) hcm
    rw [e2] at hrn
    have hT9 := (Touch.of_later (fp := [b]) (inferInstance : Later wr wr.drew)).trans (Touch.grown hG9)
    have h9c := hT9.blk hPr (by simp; omega)
    have h9b := hT9.blk hBr (by simp; omega)
    have c9c : ∀ W' [Later w9 W'] (j : Nat), W'.cell? ⟨pb, j, none⟩ = (#[.int .i64 cu, .int .i64 du] : Array Value)[j]? := fun W' hW' j => (h9c.later hW').cell j
    have c9b : ∀ W' [Later w9 W'] (j : Nat), W'.cell? ⟨W.heap.size, j, none⟩ = (#[.int .i64 0, .int .i64 0] : Array Value)[j]? := fun W' hW' j => (h9b.later hW').cell j
    have f9b : ∀ W' [Later w9 W'] (j : Nat), W'.frozen? ⟨W.heap.size, j, none⟩ = false := fun W' hW' j => (h9b.later hW').frozen j
    have c15x := Touch.cells (fp := [b]) hXr.x (by simpa using hXr.nx)
    have c15k := Touch.cells (fp := [b]) hKr (by simp; omega)
    have c15c := Touch.cells (fp := [b]) hPr (by simp; omega)
    have hTW : Hid (Touch [b] W w9) := (hTr.trans (hT9.mono (by simp))).less (fun g hg hl => by simp at hg ⊢; have := HPB.out; omega)
    clear e2 hXr hKr hPr hMr hTr hBr hxs
    go_wp2_with fail
    refine gO (S := (fun w' => Touch [b] wr w')) (by kernel_rfl) (by first | exact Touch.of_later inferInstance | exact hT9) (fun _ _ _ _ _ h => h) (fun hHeld hZq => ?_)
    refine gT 0 rfl (by kernel_rfl) (by intro w' hSw; go_simp <;> rfl) hZq hHeld ?_; simp only [Act.put, sA, sZ, sS]
    refine gT 1 rfl (by kernel_rfl) (by intro w' hSw; go_simp <;> rfl) hZq hHeld ?_; simp only [Act.put, sA, sZ, sS]
    refine gT 2 rfl (by kernel_rfl) (by intro w' hSw; go_simp <;> rfl) hZq hHeld ?_; simp only [Act.put, sA, sZ, sS]
    refine gT 3 rfl (by kernel_rfl) (by intro w' hSw; go_simp <;> rfl) hZq hHeld ?_; simp only [Act.put, sA, sZ, sS]
    refine gT 4 rfl (by kernel_rfl) (by intro w' hSw; go_simp <;> rfl) hZq hHeld ?_; simp only [Act.put, sA, sZ, sS]
    refine gT 5 rfl (by kernel_rfl) (by intro w' hSw; go_simp <;> rfl) hZq hHeld ?_; simp only [Act.put, sA, sZ, sS]
    refine gE 6 rfl (by kernel_rfl) (fun K hK => ?_)
    go_simp
    skip
    refine hK.out _ _ (by first | exact Touch.of_later inferInstance | exact hT9) (fun hHeld => ?_)
    try simp only [Act.put, sA, sZ, sS]
    refine wpAnyH_done (by kernel_rfl) ?_ _
    go_wp2
    have hB := h9b
    have HF := (hB.set_ 0 (.int .i64 (cu))).set_ 1 (.int .i64 (du))
    have hr0 := (HF.cell 0).trans (show _ = some (.int .i64 (cu) : Value) from rfl)
    have hr1 := (HF.cell 1).trans (show _ = some (.int .i64 (du) : Value) from rfl)
    refine bodyPost_ret (v := .agg #[.int .i64 (cu), .int .i64 (du)]) (by simp [results, Tryz.results74, go_sem, hr0, hr1]) rfl ?_
    exact ⟨by rw [← HEND.out], ((hM9.touch (fp := [W.heap.size]) ((Touch.refl_.set_ (by simp) _ _).set_ (by simp) _ _) (by simp; omega)).mono hcnb.out), (hTW.out.new_ (Nat.le_refl _) _ _).new_ (Nat.le_refl _) _ _⟩
set_option maxHeartbeats 8000000 in
theorem best_succ {m : Nat} {A : Nat → Int} {P : Nat → Nat → Int} {pA : Option Addr} {pc gx gs gp b : Nat} {g : Nat → Nat} (ci : CutIn m A P) {r : Nat} (hbst : BstC m A P (.slice pA m pc) gx gs gp b g r) (hfol : FolC m A P (.slice pA m pc) gx gs gp b g r) : BstC m A P (.slice pA m pc) gx gs gp b g (r + 1) := by
 intro W iv uv i u cnt hiv huv hir hu hX hM hc
 subst hiv huv
 have hm8 := ci.m8
 have h256 := pow256 hm8
 have hi : i < m := by omega
 have hdi : ¬ (i : Int) = (m : Int) := by omega
 have hd1 := (beqi_f hdi).1
 have hd2 := (beqi_f hdi).2
 have e0 : memoB m A P i u = bI m A P (r + 1) u := by unfold memoB; rw [show m - i = r + 1 by omega]
 have HBS := Lib.hid hbst
 have HFL := Lib.hid hfol
 clear hbst hfol
 obtain ⟨Wa, hWa⟩ : ∃ Wa : World, Wa = W.alloc (.cells #[.int .i64 0, .int .i64 0] 110) := ⟨_, rfl⟩
 have hB : Blk Wa W.heap.size 110 #[.int .i64 0, .int .i64 0] := by rw [hWa]; exact Blk.new _ _ _
 haveI hLa : Later W Wa := by rw [hWa]; infer_instance
 have hxs : ∀ W' [Later W W'] (j : Nat), W'.cell? ⟨gx, j, none⟩ = (#[.slice pA m pc, .slice (some ⟨gs, 0, none⟩) m m, .slice (some ⟨gp, 0, none⟩) m m, .map (some b)] : Array Value)[j]? := hX.xs
 have hgx := hX.x.lt
 have hbW := hM.lt
 obtain ⟨Wb, hWb⟩ : ∃ Wb : World, Wb = Wa.alloc (.cells #[.int .i64 i, .int .i64 u] 137) := ⟨_, rfl⟩
 have hKy : Blk Wb (W.heap.size + 1) 137 #[.int .i64 i, .int .i64 u] := by rw [hWb, hWa]; have h9 := Blk.new (W.alloc (.cells #[.int .i64 0, .int .i64 0] 110)) 137 #[.int .i64 i, .int .i64 u]; simpa using h9
 have hsb : Hid (Wb.heap.size = W.heap.size + 2) := by show _ = _; rw [hWb, hWa]; simp
 haveI hLb : Later Wa Wb := by rw [hWb]; infer_instance
 haveI hLw : Later W Wb := hLa.trans hLb
 have hBby := hB.later hLb
 have hKc : ∀ W' [Later Wb W'] (j : Nat), W'.cell? ⟨W.heap.size + 1, j, none⟩ = (#[.int .i64 i, .int .i64 u] : Array Value)[j]? := fun W' hW' j => (hKy.later hW').cell j
 obtain ⟨c0, d0, ok, hlook, hok⟩ := hM.look (i := i) (u := u) (by omega) (by omega)
 have HM := Lib.hid hM
 have HX := Lib.hid hX
 clear hM hX
 cases ok with
 | true =>
  have e2 := e0
  have e1 := hok rfl
  rw [← e2, ← e1]
  clear e1 e2 hok
  go_enter Tryz.func74, Tryz.ntmps74
  go_wp2_with fail
  rw [← hWa, ← hWb]
  have hBc : ∀ W' [Later Wb W'] (j : Nat), W'.cell? ⟨W.heap.size, j, none⟩ = (#[.int .i64 0, .int .i64 0] : Array Value)[j]? := fun W' hW' j => (hBby.later hW').cell j
  have hBf : ∀ W' [Later Wb W'] (j : Nat), W'.frozen? ⟨W.heap.size, j, none⟩ = false := fun W' hW' j => (hBby.later hW').frozen j
  clear hWa hWb
  refine gO (S := (fun w' => Later Wb w' ∧ Later W w')) (by kernel_rfl) (by exact ⟨inferInstance, inferInstance⟩) (fun _ _ _ _ _ h => h) (fun hHeld hZq => ?_)
  refine gT 0 rfl (by kernel_rfl) (by intro w' hSw; go_simp <;> rfl) hZq hHeld ?_; simp only [Act.put, sA, sZ, sS]
  refine gT 1 rfl (by kernel_rfl) (by intro w' hSw; go_simp <;> rfl) hZq hHeld ?_; simp only [Act.put, sA, sZ, sS]
  refine gT 2 rfl (by kernel_rfl) (by intro w' hSw; go_simp <;> rfl) hZq hHeld ?_; simp only [Act.put, sA, sZ, sS]
  refine gT 3 rfl (by kernel_rfl) (by intro w' hSw; go_simp <;> rfl) hZq hHeld ?_; simp only [Act.put, sA, sZ, sS]
  refine gT 4 rfl (by kernel_rfl) (by intro w' hSw; go_simp <;> rfl) hZq hHeld ?_; simp only [Act.put, sA, sZ, sS]
  refine gT 5 rfl (by kernel_rfl) (by intro w' hSw; go_simp <;> rfl) hZq hHeld ?_; simp only [Act.put, sA, sZ, sS]
  refine gT 6 rfl (by kernel_rfl) (by intro w' hSw; go_simp <;> rfl) hZq hHeld ?_; simp only [Act.put, sA, sZ, sS]
  refine gT 7 rfl (by kernel_rfl) (by intro w' hSw; go_simp <;> rfl) hZq hHeld ?_; simp only [Act.put, sA, sZ, sS]
  refine gT 8 rfl (by kernel_rfl) (by intro w' hSw; go_simp <;> rfl) hZq hHeld ?_; simp only [Act.put, sA, sZ, sS]
  refine gE 9 rfl (by kernel_rfl) (fun K hK => ?_)
  go_simp
  skip
  refine hK.out _ _ (by exact ⟨inferInstance, inferInstance⟩) (fun hHeld => ?_)
  try simp only [Act.put, sA, sZ, sS]
  refine gE 10 rfl (by kernel_rfl) (fun K hK => ?_)
  go_simp
  skip
  refine hK.out _ _ (by exact ⟨inferInstance, inferInstance⟩) (fun hHeld => ?_)
  try simp only [Act.put, sA, sZ, sS]
  refine gT 11 rfl (by kernel_rfl) (by intro w' hSw; go_simp <;> rfl) hZq hHeld ?_; simp only [Act.put, sA, sZ, sS]
  refine wpAnyH_done (by kernel_rfl) ?_ _
  go_wp2
  have hB := hBby.alloc (.cells #[.int .i64 c0, .int .i64 d0] 110)
  have HF := (hB.set_ 0 (.int .i64 (c0))).set_ 1 (.int .i64 (d0))
  have hr0 := (HF.cell 0).trans (show _ = some (.int .i64 (c0) : Value) from rfl)
  have hr1 := (HF.cell 1).trans (show _ = some (.int .i64 (d0) : Value) from rfl)
  refine bodyPost_ret (v := .agg #[.int .i64 (c0), .int .i64 (d0)]) (by simp [results, Tryz.results74, go_sem, hr0, hr1]) rfl ?_
  exact ⟨rfl, (HM.out.later inferInstance).mono (by omega), Touch.of_later inferInstance⟩
 | false =>
  obtain ⟨cc, dv, hcd⟩ : ∃ cc dv, bI m A P r u = (cc, dv) := ⟨_, _, rfl⟩
  have HCD := Lib.hid hcd
  have hNB : NB (r + 1) = 1 + 9 * NB r := rfl
  obtain ⟨N, hN⟩ : ∃ N, N = NB r := ⟨_, rfl⟩
  rw [← hN] at hNB
  rw [hNB] at hc ⊢
  have HN := Lib.hid hN
  have E0 := Lib.hid e0
  have hwi : IntKind.i64.wrap ((i : Int) + 1) = (i : Int) + 1 := by rw [IntKind.wrap_i64]; omega
  clear hcd hNB hN e0
  go_enter Tryz.func74, Tryz.ntmps74
  go_wp2_with fail
  rw [← hWa, ← hWb]
  clear hWa hWb
  refine gO (S := (fun w' => Later Wb w' ∧ Later W w')) (by kernel_rfl) (by exact ⟨inferInstance, inferInstance⟩) (fun _ _ _ _ _ h => h) (fun hHeld hZq => ?_)
  refine gT 0 rfl (by kernel_rfl) (by intro w' hSw; go_simp <;> rfl) hZq hHeld ?_; simp only [Act.put, sA, sZ, sS]
  refine gT 1 rfl (by kernel_rfl) (by intro w' hSw; go_simp <;> rfl) hZq hHeld ?_; simp only [Act.put, sA, sZ, sS]
  refine gT 2 rfl (by kernel_rfl) (by intro w' hSw; go_simp <;> rfl) hZq hHeld ?_; simp only [Act.put, sA, sZ, sS]
  refine gT 3 rfl (by kernel_rfl) (by intro w' hSw; go_simp <;> rfl) hZq hHeld ?_; simp only [Act.put, sA, sZ, sS]
  refine gT 4 rfl (by kernel_rfl) (by intro w' hSw; go_simp <;> rfl) hZq hHeld ?_; simp only [Act.put, sA, sZ, sS]
  refine gT 5 rfl (by kernel_rfl) (by intro w' hSw; go_simp <;> rfl) hZq hHeld ?_; simp only [Act.put, sA, sZ, sS]
  refine gT 6 rfl (by kernel_rfl) (by intro w' hSw; go_simp <;> rfl) hZq hHeld ?_; simp only [Act.put, sA, sZ, sS]
  refine gT 7 rfl (by kernel_rfl) (by intro w' hSw; go_simp <;> rfl) hZq hHeld ?_; simp only [Act.put, sA, sZ, sS]
  refine gT 8 rfl (by kernel_rfl) (by intro w' hSw; go_simp <;> rfl) hZq hHeld ?_; simp only [Act.put, sA, sZ, sS]
  refine gE 9 rfl (by kernel_rfl) (fun K hK => ?_)
  go_simp
  skip
  refine hK.out _ _ (by exact ⟨inferInstance, inferInstance⟩) (fun hHeld => ?_)
  try simp only [Act.put, sA, sZ, sS]
  refine gE 10 rfl (by kernel_rfl) (fun K hK => ?_)
  go_simp
  skip
  refine hK.out _ _ (by exact ⟨inferInstance, inferInstance⟩) (fun hHeld => ?_)
  try simp only [Act.put, sA, sZ, sS]
  refine gT 11 rfl (by kernel_rfl) (by intro w' hSw; go_simp <;> rfl) hZq hHeld ?_; simp only [Act.put, sA, sZ, sS]
  refine wpAnyH_done (by kernel_rfl) ?_ _
  obtain ⟨wq, hwq⟩ : ∃ w : World, w = (Wb.alloc (.cells #[.int .i64 c0, .int .i64 d0] 110)).drew := ⟨_, rfl⟩
  have hsq : Hid (wq.heap.size = W.heap.size + 3) := by show _ = _; rw [hwq]; simp [hsb.out]
  haveI hLq : Later Wb wq := by rw [hwq]; infer_instance
  haveI hLr : Later W wq := hLw.trans hLq
  rw [← hwq]
  have hBq := Lib.hid (hBby.later hLq)
  have hKq := Lib.hid (hKy.later hLq)
  clear hwq hlook hok hKc hKy hBby hB
  haveI hLc : Later W (wq.alloc (.cells #[.int .i64 0, .int .i64 0] 110)) := inferInstance
  have hP0 : Blk (wq.alloc (.cells #[.int .i64 0, .int .i64 0] 110)) wq.heap.size 110 #[.int .i64 0, .int .i64 0] := Blk.new _ _ _
  go_wp2_with (go_at_call 74; go_loud (refine (HBS.out (wq.alloc (.cells #[.int .i64 0, .int .i64 0] 110)) ((i : Int) + 1) (u : Int) (i + 1) u cnt (by omega) rfl (by omega) hu (HX.out.later inferInstance) (HM.out.later inferInstance) (by rw [← HN.out]; omega)).mono ?_; rw [HCD.out, ← HN.out]; rintro e w5 ⟨rfl, hM5, hT5⟩; have hP5 := hT5.blk hP0 (by have := hsq.out; simp; omega); have h5f : ∀ W' [Later w5 W'] (j : Nat), W'.frozen? ⟨wq.heap.size, j, none⟩ = false := (fun W' hW' j => (hP5.later hW').frozen j); have h5c : ∀ W' [Later w5 W'] (j : Nat), W'.cell? ⟨wq.heap.size, j, none⟩ = (#[.int .i64 0, .int .i64 0] : Array Value)[j]? := (fun W' hW' j => (hP5.later hW').cell j); have hX5 := HX.out.touch ((Touch.of_later hLc).trans hT5) (by simp); have hgq : gx ≠ wq.heap.size := (by have := hsq.out; omega); have hxs5 : ∀ j : Nat, ((w5.setCell ⟨wq.heap.size, 0, none⟩ (.int .i64 cc)).setCell ⟨wq.heap.size, 1, none⟩ (.int .i64 dv)).cell? ⟨gx, j, none⟩ = (#[.slice pA m pc, .slice (some ⟨gs, 0, none⟩) m m, .slice (some ⟨gp, 0, none⟩) m m, .map (some b)] : Array Value)[j]? := (fun j => ((hX5.x.far hgq _).far hgq _).cell j)))
  obtain ⟨pb, hpb⟩ : ∃ pb, pb = wq.heap.size := ⟨_, rfl⟩
  have HPB : Hid (pb = W.heap.size + 3) := by show _ = _; rw [hpb, hsq.out]
  rw [← hpb] at hP5 hP0 ⊢
  obtain ⟨W2, hW2⟩ : ∃ W2 : World, W2 = (w5.setCell ⟨pb, 0, none⟩ (.int .i64 cc)).setCell ⟨pb, 1, none⟩ (.int .i64 dv) := ⟨_, rfl⟩
  rw [← hW2]
  have hT2 : Touch [b, pb] W W2 := by rw [hW2]; exact (((Touch.of_later hLc).trans (hT5.mono (by simp))).set_ (by simp) _ _).set_ (by simp) _ _
  have hP2 : Blk W2 pb 110 #[.int .i64 cc, .int .i64 dv] := by rw [hW2]; exact (hP5.set_ 0 _).set_ 1 _
  have hM2 : MemoOK (memoB m A P) W2 b (cnt + N) := by rw [hW2]; exact hM5.touch (fp := [pb]) ((Touch.refl_.set_ (by simp) _ _).set_ (by simp) _ _) (by have := HPB.out; simp; omega)
  have HB2 := Lib.hid (hBq.out.later (inferInstance : Later wq (wq.alloc (.cells #[.int .i64 0, .int .i64 0] 110))))
  have HK2 := Lib.hid (hKq.out.later (inferInstance : Later wq (wq.alloc (.cells #[.int .i64 0, .int .i64 0] 110))))
  have HB2 := Lib.hid (hT5.blk HB2.out (by simp; omega))
  have HK2 := Lib.hid (hT5.blk HK2.out (by simp; omega))
  have hne1 : W.heap.size ≠ pb := by have := HPB.out; omega
  have hne2 : W.heap.size + 1 ≠ pb := by have := HPB.out; omega
  have HB2 : Hid (Blk W2 W.heap.size 110 #[.int .i64 0, .int .i64 0]) := by show Blk _ _ _ _; rw [hW2]; exact (HB2.out.far hne1 _).far hne1 _
  have HK2 : Hid (Blk W2 (W.heap.size + 1) 137 #[.int .i64 i, .int .i64 u]) := by show Blk _ _ _ _; rw [hW2]; exact (HK2.out.far hne2 _).far hne2 _
  have HT2 := Lib.hid hT2
  have hX2 := HX.out.touch hT2 (by have := HPB.out; simp; omega)
  have hl2 := HT2.out.size
  clear hgq hne1 hne2 hW2 hP5 hM5 hT5 hX5 hxs5 h5f h5c hpb hT2 hP0
  go_loopw [66] (fun kv wr => ∃ (k cnt' : Nat), k ≤ m ∧ kv = .int .i64 (k : Int) ∧ Hid (Blk wr pb 110 #[.int .i64 (bAt m A P r i u k).1, .int .i64 (bAt m A P r i u k).2]) ∧ Hid (MemoOK (memoB m A P) wr b cnt') ∧ Hid (cnt' ≤ cnt + (k + 1) * N) ∧ Hid (Touch [b, pb] W2 wr)) (fun kv _ => m - (intOf kv).toNat)
  case atStart => exact ⟨0, _, by omega, rfl, Lib.hid (by rw [bAt_zero, HCD.out]; exact hP2), Lib.hid hM2, Lib.hid (by omega), Lib.hid Touch.refl_⟩
  case round =>
   obtain ⟨k, cnt', hk, rfl, h10, hM, hcn, hT⟩ := hrel
   have HPBo : W.heap.size + 3 ≤ pb := Nat.le_of_eq HPB.out.symm
   have hTr := HT2.out.trans hT.out
   have hXr := HX.out.touch hTr (by simp; omega)
   have hBr := hT.out.blk HB2.out (by simp; omega)
   have hKr := hT.out.blk HK2.out (by simp; omega)
   have hMr := hM.out
   obtain ⟨cu, du, hcu⟩ : ∃ cu du, bAt m A P r i u k = (cu, du) := ⟨_, _, rfl⟩
   have hPr : Blk wr pb 110 #[.int .i64 cu, .int .i64 du] := by have h9 := h10.out; rw [hcu] at h9; exact h9
   by_cases hlt : k < m
   ·have hmul : (k + 1) * N + N ≤ 9 * N := by
     have h9 := Nat.mul_le_mul_right N (show k + 1 + 1 ≤ 9 by omega)
     rw [Nat.succ_mul] at h9
     exact h9
    have hcn2 : Hid (cnt' + N ≤ cnt + (k + 1 + 1) * N) := by show _ ≤ _; rw [Nat.succ_mul]; have := hcn.out; omega
    have hcl : cnt' + NB r ≤ 1000000000000000 := by rw [← HN.out]; have := hcn.out; omega
    obtain ⟨c3, d3, ok3, hav⟩ : ∃ c3 d3 ok3, folV m A P r i k u = ((c3, d3), ok3) := ⟨_, _, _, rfl⟩
    have HAV := Lib.hid hav
    have hstep := Lib.hid (bAt_step (A := A) (P := P) (r := r) (i := i) (u := u) hlt)
    have HCU := Lib.hid hcu
    have HXr := Lib.hid hXr
    have HPr := Lib.hid hPr
    clear hcu hav hXr hBr hKr h10 hMr hTr hPr
    cases ok3 with
    | false =>
     have hnx : Hid (bAt m A P r i u (k + 1) = (cu, du)) := by show _ = _; rw [hstep.out, bStep_no (.inl (by rw [HAV.out])), HCU.out]
     go_wp2_with (go_at_call 100; go_loud (refine (HFL.out wr _ _ _ i k u cnt' rfl rfl rfl hir hlt hu HXr.out hM.out hcl).mono ?_; rw [HAV.out, ← HN.out]; rintro e w6 ⟨rfl, hM6, hT6⟩; have h6r := hT6.blk HPr.out (by simp; omega); have h6c : ∀ W' [Later w6 W'] (j : Nat), W'.cell? ⟨pb, j, none⟩ = (#[.int .i64 cu, .int .i64 du] : Array Value)[j]? := (fun W' hW' j => (h6r.later hW').cell j); have h6f : ∀ W' [Later w6 W'] (j : Nat), W'.frozen? ⟨pb, j, none⟩ = false := (fun W' hW' j => (h6r.later hW').frozen j)))
     go_roundw
     case rel => exact ⟨k + 1, cnt' + N, by omega, by go_num, Lib.hid (by rw [hnx.out]; exact h6r.later inferInstance), Lib.hid (hM6.later inferInstance), hcn2, Lib.hid ((hT.out.trans (hT6.mono (by simp))).trans (Touch.of_later inferInstance))⟩
     case measure => simp [intOf]; omega
    | true =>
     obtain ⟨z, hz⟩ : ∃ z, z = prC (c3, d3) (cu, du) := ⟨_, rfl⟩
     have HZ := Lib.hid hz.symm
     by_cases hzl : z < 0
     ·have hnx : Hid (bAt m A P r i u (k + 1) = (c3, d3)) := by show _ = _; rw [hstep.out, HCU.out, bStep_yes (by rw [HAV.out]) (by rw [HAV.out, ← hz]; exact hzl), HAV.out]
      clear hz
      go_wp2_with first
       | (go_at_call 100; go_loud (refine (HFL.out wr _ _ _ i k u cnt' rfl rfl rfl hir hlt hu HXr.out hM.out hcl).mono ?_; rw [HAV.out, ← HN.out]; rintro e w6 ⟨rfl, hM6, hT6⟩; have h6r := hT6.blk HPr.out (by simp; omega); have h6c : ∀ W' [Later w6 W'] (j : Nat), W'.cell? ⟨pb, j, none⟩ = (#[.int .i64 cu, .int .i64 du] : Array Value)[j]? := (fun W' hW' j => (h6r.later hW').cell j); have h6f : ∀ W' [Later w6 W'] (j : Nat), W'.frozen? ⟨pb, j, none⟩ = false := (fun W' hW' j => (h6r.later hW').frozen j)))
       | (go_at_call 75; go_loud (refine (impl_comparePrices c3 d3 cu du _).mono ?_; rw [HZ.out]; rintro e w8 ⟨rfl, L8⟩; have U8 := Later.trans (w := w6) inferInstance L8; have hBx := (Blk.new w6 110 #[.int .i64 c3, .int .i64 d3]).later L8; have hcx := hBx.cell; have hfx := hBx.frozen))
      go_roundw
      case rel => exact ⟨k + 1, cnt' + N, by omega, by go_num, Lib.hid (by rw [hnx.out]; exact ((h6r.later U8).set_ 0 _).set_ 1 _), Lib.hid ((hM6.later U8).touch (fp := [pb]) ((Touch.refl_.set_ (by simp) _ _).set_ (by simp) _ _) (by simp; omega)), hcn2, Lib.hid ((((hT.out.trans (hT6.mono (by simp))).trans (Touch.of_later U8)).set_ (by simp) _ _).set_ (by simp) _ _)⟩
      case measure => simp [intOf]; omega
     ·have hnx : Hid (bAt m A P r i u (k + 1) = (cu, du)) := by show _ = _; rw [hstep.out, HCU.out, bStep_no (.inr (by rw [HAV.out, ← hz]; exact hzl))]
      clear hz
      go_wp2_with first
       | (go_at_call 100; go_loud (refine (HFL.out wr _ _ _ i k u cnt' rfl rfl rfl hir hlt hu HXr.out hM.out hcl).mono ?_; rw [HAV.out, ← HN.out]; rintro e w6 ⟨rfl, hM6, hT6⟩; have h6r := hT6.blk HPr.out (by simp; omega); have h6c : ∀ W' [Later w6 W'] (j : Nat), W'.cell? ⟨pb, j, none⟩ = (#[.int .i64 cu, .int .i64 du] : Array Value)[j]? := (fun W' hW' j => (h6r.later hW').cell j); have h6f : ∀ W' [Later w6 W'] (j : Nat), W'.frozen? ⟨pb, j, none⟩ = false := (fun W' hW' j => (h6r.later hW').frozen j)))
       | (go_at_call 75; go_loud (refine (impl_comparePrices c3 d3 cu du _).mono ?_; rw [HZ.out]; rintro e w8 ⟨rfl, L8⟩; have U8 := Later.trans (w := w6) inferInstance L8; have hBx := (Blk.new w6 110 #[.int .i64 c3, .int .i64 d3]).later L8; have hcx := hBx.cell; have hfx := hBx.frozen))
      go_roundw
      case rel => exact ⟨k + 1, cnt' + N, by omega, by go_num, Lib.hid (by rw [hnx.out]; exact h6r.later inferInstance), Lib.hid (hM6.later inferInstance), hcn2, Lib.hid ((hT.out.trans (hT6.mono (by simp))).trans (Touch.of_later inferInstance))⟩
      case measure => simp [intOf]; omega
   ·have hkm : m = k := by omega
    subst hkm
    have hend := bAt_end (A := A) (P := P) (u := u) hir
    rw [hcu] at hend
    have HEND := Lib.hid hend
    have hcnb : Hid (cnt' + 1 ≤ cnt + (1 + 9 * N)) := by
     have h9 := Nat.mul_le_mul_right N (show m + 1 ≤ 9 by omega)
     show _ ≤ _
     have := hcn.out
     omega
    have hcm : cnt' < maxLen := by have := hcnb.out; unfold maxLen; omega
    have e2 : memoB m A P i u = (cu, du) := by rw [E0.out, ← hend]
    have hxr := hXr.xs
    clear hend hcu h10 hM hT
    obtain ⟨w9, hrn, hM9, hG9⟩ := (hMr.later (inferInstance : Later wr wr.drew)).put (i := i) (u := u) (by omega) (by omega) hcm
    rw [e2] at hrn
    have hT9 := (Touch.of_later (fp := [b]) (inferInstance : Later wr wr.drew)).trans (Touch.grown hG9)
    have h9c := hT9.blk hPr (by simp; omega)
    have h9b := hT9.blk hBr (by simp; omega)
    have c9c : ∀ W' [Later w9 W'] (j : Nat), W'.cell? ⟨pb, j, none⟩ = (#[.int .i64 cu, .int .i64 du] : Array Value)[j]? := fun W' hW' j => (h9c.later hW').cell j
    have c9b : ∀ W' [Later w9 W'] (j : Nat), W'.cell? ⟨W.heap.size, j, none⟩ = (#[.int .i64 0, .int .i64 0] : Array Value)[j]? := fun W' hW' j => (h9b.later hW').cell j
    have f9b : ∀ W' [Later w9 W'] (j : Nat), W'.frozen? ⟨W.heap.size, j, none⟩ = false := fun W' hW' j => (h9b.later hW').frozen j
    have c15x := Touch.cells (fp := [b]) hXr.x (by simpa using hXr.nx)
    have c15k := Touch.cells (fp := [b]) hKr (by simp; omega)
    have c15c := Touch.cells (fp := [b]) hPr (by simp; omega)
    have hTW : Hid (Touch [b] W w9) := (hTr.trans (hT9.mono (by simp))).less (fun g hg hl => by simp at hg ⊢; have := HPB.out; omega)
    clear e2 hXr hKr hPr hMr hTr hBr hxs
    go_wp2_with fail
    refine gO (S := (fun w' => Touch [b] wr w')) (by kernel_rfl) (by first | exact Touch.of_later inferInstance | exact hT9) (fun _ _ _ _ _ h => h) (fun hHeld hZq => ?_)
    refine gT 0 rfl (by kernel_rfl) (by intro w' hSw; go_simp <;> rfl) hZq hHeld ?_; simp only [Act.put, sA, sZ, sS]
    refine gT 1 rfl (by kernel_rfl) (by intro w' hSw; go_simp <;> rfl) hZq hHeld ?_; simp only [Act.put, sA, sZ, sS]
    refine gT 2 rfl (by kernel_rfl) (by intro w' hSw; go_simp <;> rfl) hZq hHeld ?_; simp only [Act.put, sA, sZ, sS]
    refine gT 3 rfl (by kernel_rfl) (by intro w' hSw; go_simp <;> rfl) hZq hHeld ?_; simp only [Act.put, sA, sZ, sS]
    refine gT 4 rfl (by kernel_rfl) (by intro w' hSw; go_simp <;> rfl) hZq hHeld ?_; simp only [Act.put, sA, sZ, sS]
    refine gT 5 rfl (by kernel_rfl) (by intro w' hSw; go_simp <;> rfl) hZq hHeld ?_; simp only [Act.put, sA, sZ, sS]
    refine gE 6 rfl (by kernel_rfl) (fun K hK => ?_)
    go_simp
    skip
    refine hK.out _ _ (by first | exact Touch.of_later inferInstance | exact hT9) (fun hHeld => ?_)
    try simp only [Act.put, sA, sZ, sS]
    refine wpAnyH_done (by kernel_rfl) ?_ _
    go_wp2
    have hB := h9b
    have HF := (hB.set_ 0 (.int .i64 (cu))).set_ 1 (.int .i64 (du))
    have hr0 := (HF.cell 0).trans (show _ = some (.int .i64 (cu) : Value) from rfl)
    have hr1 := (HF.cell 1).trans (show _ = some (.int .i64 (du) : Value) from rfl)
    refine bodyPost_ret (v := .agg #[.int .i64 (cu), .int .i64 (du)]) (by simp [results, Tryz.results74, go_sem, hr0, hr1]) rfl ?_
    exact ⟨by rw [← HEND.out], ((hM9.touch (fp := [W.heap.size]) ((Touch.refl_.set_ (by simp) _ _).set_ (by simp) _ _) (by simp; omega)).mono hcnb.out), (hTW.out.new_ (Nat.le_refl _) _ _).new_ (Nat.le_refl _) _ _⟩
theorem best_all {m : Nat} {A : Nat → Int} {P : Nat → Nat → Int} {pA : Option Addr} {pc gx gs gp b : Nat} {g : Nat → Nat} (ci : CutIn m A P) (r : Nat) : BstC m A P (.slice pA m pc) gx gs gp b g r ∧ FolC m A P (.slice pA m pc) gx gs gp b g r := by
 induction r with
 | zero => exact ⟨best_zero ci, followed_step ci (best_zero ci)⟩
 | succ r ih =>
  have h1 := best_succ ci ih.1 ih.2
  exact ⟨h1, followed_step ci h1⟩
end Go.Proofs.YtknhebakebmlcaaGreat
