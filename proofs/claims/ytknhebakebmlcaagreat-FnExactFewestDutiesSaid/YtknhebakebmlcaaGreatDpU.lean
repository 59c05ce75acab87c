/-
 FewestDuties: the reference's plan is set anew (reset), and who drives behind whom (behind).
-/
import Derived.Test.YtknhebakebmlcaaGreatDpT
namespace Go.Proofs.YtknhebakebmlcaaGreat
open Go Go.RowKit
set_option linter.unusedVariables false
set_option maxRecDepth 100000
set_option linter.unusedSimpArgs false
/-- A plan, whatever it knows and forbids. -/
structure PlanB (tp : TypeId) (m : Nat) (A : Nat → Int) (P : Nat → Nat → Int) (W : World) (pv : Value) (aA : Option Addr) (ac : Nat) (qA : Option Addr) (qc : Nat) (px : Nat) (fa fq : List Nat) : Prop where
 x : ∃ f0 kv, Blk W px tp #[pv, .slice aA m ac, .slice qA m qc, .int .i64 f0, kv]
 a : OSl 1 oInt W aA m ac (aL m A) fa
 q : OSl 1 (oSl 1 oInt) W qA m qc (qL m P) fq
 xa : px ∉ fa
 xq : px ∉ fq
theorem PlanOK.base {tp tk : TypeId} {m : Nat} {A : Nat → Int} {P : Nat → Nat → Int} {F : Nat} {W : World} {pv : Value} {aA qA : Option Addr} {ac qc px gk : Nat} {fa fq : List Nat} (h : PlanOK tp tk m A P F W pv aA ac qA qc px gk fa fq) : PlanB tp m A P W pv aA ac qA qc px fa fq :=
 ⟨⟨_, _, h.x⟩, h.a, h.q, h.xa, h.xq⟩
set_option maxHeartbeats 2000000 in
theorem plan_reset {m : Nat} {A : Nat → Int} {P : Nat → Nat → Int} (hm8 : m ≤ 8) {W : World} {pA aA qA : Option Addr} {pc ac qc px : Nat} {fa fq : List Nat} (h : PlanB 107 m A P W (.slice pA m pc) aA ac qA qc px fa fq) (fv : Int) (F : Nat) (hfv : fv = (F : Int)) :
  Calls Tryz.prog 90 #[.pointer (some ⟨px, 0, none⟩), .int .i64 fv] W (fun e W' => e = .returned (.tuple #[]) ∧ ∃ gk, PlanOK 107 3 m A P F W' (.slice pA m pc) aA ac qA qc px gk fa fq ∧ Touch [px] W W' ∧ W.heap.size ≤ gk) := by
 subst hfv
 obtain ⟨f0, kv, hx⟩ := h.x
 have h256 : 2 ^ m ≤ 256 := Nat.pow_le_pow_right (n := 2) (by omega) hm8
 have hum := u64w (a := m) (by omega)
 have humn := u64n (a := m) (by omega)
 obtain ⟨N, hN⟩ : ∃ N, N = 2 ^ m := ⟨_, rfl⟩
 have hsN : IntKind.i64.wrap ((2 : Int) ^ m) = (N : Int) := by
  rw [show (2 : Int) ^ m = (N : Int) by rw [hN]; simp, IntKind.wrap_i64]
  omega
 have HN := Lib.hid hN
 rw [← hN] at h256
 have hmk := make_ints N (by omega)
 have hxc : ∀ W' [Later W W'] (j : Nat), W'.cell? ⟨px, j, none⟩ = (#[.slice pA m pc, .slice aA m ac, .slice qA m qc, .int .i64 f0, kv] : Array Value)[j]? := fun W' hW' j => (hx.later hW').cell j
 have hxf : ∀ (j : Nat) W' [Later W W'], W'.frozen? ⟨px, j, none⟩ = false := fun j W' hW' => (hx.later hW').frozen j
 have hxl := hx.lt
 have HX := Lib.hid hx
 have HB := Lib.hid h
 clear hN hx h
 go_enter Tryz.func90, Tryz.ntmps90
 go_wp2_with fail
 have HX0 := ((HX.out.set_ 3 (.int .i64 (F : Int))).set_ 4 (.slice (some ⟨W.heap.size, 0, none⟩) N N)).alloc (.cells (rowA (List.replicate N 0)) 3)
 have HB0 := Blk.new ((W.setCell ⟨px, 3, none⟩ (.int .i64 (F : Int))).setCell ⟨px, 4, none⟩ (.slice (some ⟨W.heap.size, 0, none⟩) N N)) 3 (rowA (List.replicate N 0))
 have HT1 : Touch [px, W.heap.size] W ((W.setCell ⟨px, 3, none⟩ (.int .i64 (F : Int))).setCell ⟨px, 4, none⟩ (.slice (some ⟨W.heap.size, 0, none⟩) N N)) := (Touch.refl_.set_ List.mem_cons_self _ _).set_ List.mem_cons_self _ _
 have HT0 := HT1.trans (Touch.of_later (Later.alloc_ (h := Later.rfl_) (.cells (rowA (List.replicate N 0)) 3)))
 clear HT1
 rw [show ((W.setCell ⟨px, 3, none⟩ (.int .i64 (F : Int))).setCell ⟨px, 4, none⟩ (.slice (some ⟨W.heap.size, 0, none⟩) N N)).heap.size = W.heap.size by simp] at HB0
 generalize (((W.setCell ⟨px, 3, none⟩ (.int .i64 (F : Int))).setCell ⟨px, 4, none⟩ (.slice (some ⟨W.heap.size, 0, none⟩) N N)).alloc (.cells (rowA (List.replicate N 0)) 3)) = W0 at *
 obtain ⟨g, hg⟩ : ∃ g, g = W.heap.size := ⟨_, rfl⟩
 rw [← hg] at HX0 HB0 HT0
 have HG := Lib.hid hg
 have hgp : ¬ px = g := by omega
 clear hg
 go_loopw [4] (fun av wr => ∃ (k : Nat) (cs : List Int), k ≤ N ∧ av = .int .i64 (k : Int) ∧ Hid (Blk wr px 107 #[.slice pA m pc, .slice aA m ac, .slice qA m qc, .int .i64 (F : Int), .slice (some ⟨g, 0, none⟩) N N]) ∧ Hid (Blk wr g 3 (rowA cs)) ∧ Hid (cs.length = N ∧ ∀ j, j < k → cs[j]? = some (-2)) ∧ Hid (Touch [px, g] W wr)) (fun av _ => N - (intOf av).toNat)
 case atStart => exact ⟨0, _, by omega, rfl, Lib.hid HX0, Lib.hid HB0, Lib.hid ⟨by simp, fun j hj => by omega⟩, Lib.hid HT0⟩
 case round =>
  obtain ⟨k, cs, hk, rfl, hX, hC, hF, hT⟩ := hrel
  have hxr : ∀ W' [Later wr W'] (j : Nat), W'.cell? ⟨px, j, none⟩ = (#[.slice pA m pc, .slice aA m ac, .slice qA m qc, .int .i64 (F : Int), .slice (some ⟨g, 0, none⟩) N N] : Array Value)[j]? := fun W' hW' j => (hX.out.later hW').cell j
  have hcf : ∀ (j : Nat) W' [Later wr W'], W'.frozen? ⟨g, j, none⟩ = false := fun j W' hW' => (hC.out.later hW').frozen j
  have hgl := hC.out.lt
  by_cases hlt : k < N
  ·obtain ⟨v, hv⟩ : ∃ v, cs[k]? = some v := ⟨_, List.getElem?_eq_getElem (by have := hF.out.1; omega)⟩
   have hvc := hC.out.rowAts hv
   have hki : (k : Int) < (N : Int) := by omega
   clear hv
   go_wp2
   go_roundw
   case rel => exact ⟨k + 1, cs.set k (-2), by omega, by go_num, Lib.hid ((hX.out.far (p := ⟨g, k, none⟩) hgp (.int .i64 (-2))).later inferInstance), Lib.hid ((hC.out.rowSet (-2)).later inferInstance), Lib.hid (fill_step hF.out hlt), Lib.hid ((hT.out.set_ (g := g) (by simp) k (.int .i64 (-2))).trans (Touch.of_later inferInstance))⟩
   case measure => simp [intOf]; omega
  ·have hki : ¬ (k : Int) < (N : Int) := by omega
   go_wp2
   go_end0
   have hkN : k = N := by omega
   have hX1 := hX.out
   rw [HN.out] at hX1
   have hC1 := all_rep hF.out hkN
   refine ⟨rfl, g, ⟨hX1.later inferInstance, (HB.out.a.touch hT.out (fun b hb hm => ?_)).later inferInstance, (HB.out.q.touch hT.out (fun b hb hm => ?_)).later inferInstance, ⟨cs, hC.out.later inferInstance, hF.out.1.trans HN.out, fun u v huv => .inl ?_⟩, HB.out.xa, HB.out.xq, ?_, ?_, ?_⟩, (hT.out.less (fq := [px]) (fun b hb hl => ?_)).trans (Touch.of_later inferInstance), by rw [← HG.out]; exact Nat.le_refl _⟩
   ·have := HB.out.a.lt b hb
    have := HG.out
    simp only [List.mem_cons, List.not_mem_nil, or_false] at hm
    rcases hm with rfl | rfl
    ·exact HB.out.xa hb
    ·omega
   ·have := HB.out.q.lt b hb
    have := HG.out
    simp only [List.mem_cons, List.not_mem_nil, or_false] at hm
    rcases hm with rfl | rfl
    ·exact HB.out.xq hb
    ·omega
   ·rw [hC1, List.getElem?_replicate] at huv
    split at huv
    ·exact (Option.some.inj huv).symm
    ·cases huv
   ·intro hm
    have := HB.out.a.lt g hm
    have := HG.out
    omega
   ·intro hm
    have := HB.out.q.lt g hm
    have := HG.out
    omega
   ·have := HG.out
    omega
   ·have := HG.out
    simp only [List.mem_cons, List.not_mem_nil, or_false] at hb ⊢
    omega
end Go.Proofs.YtknhebakebmlcaaGreat
