/-
 FewestDuties: slices.SortFunc on at most eight duties, by the first id of the first piece.
-/
import Derived.Test.YtknhebakebmlcaaGreatDpF
import Derived.Test.YtknhebakebmlcaaGreatKb
import Derived.Deep.RegionHeld3
namespace Go.Proofs.YtknhebakebmlcaaGreat
open Go Go.RowKit
set_option linter.unusedVariables false
set_option maxRecDepth 100000
set_option linter.unusedSimpArgs false
/-- A duty in a slice: its cell, its pieces, the blocks that it owns. -/
abbrev DutE := Value × List (List Int) × List Nat
def keyE (x : DutE) : Int := keyD x.2.1
section
variable {α : Type} {key : α → Int}
/-- x on its way down: j of P are ahead of it. -/
def midK (P : List α) (x : α) (j : Nat) (rest : List α) : List α := P.take j ++ x :: (P.drop j ++ rest)
theorem midK_x {P : List α} {x : α} {j : Nat} {rest : List α} (hj : j ≤ P.length) : (midK P x j rest)[j]? = some x := by
 unfold midK
 rw [List.getElem?_append_right (by simp; omega)]
 simp [Nat.min_eq_left hj]
theorem midK_y {P : List α} {x y : α} {j : Nat} {rest : List α} (hy : P[j]? = some y) : (midK P x (j + 1) rest)[j]? = some y := by
 have hj : j < P.length := (List.getElem?_eq_some_iff.1 hy).1
 unfold midK
 rw [List.getElem?_append_left (by simp; omega), List.getElem?_take, if_pos (by omega)]
 exact hy
theorem midK_swap {P : List α} {x y : α} {j : Nat} {rest : List α} (hy : P[j]? = some y) : ((midK P x (j + 1) rest).set (j + 1) y).set j x = midK P x j rest := by
 have hj : j < P.length := (List.getElem?_eq_some_iff.1 hy).1
 unfold midK
 have e1 : P.take (j + 1) = P.take j ++ [y] := by rw [List.take_add_one, hy]; rfl
 have e2 : P.drop j = y :: P.drop (j + 1) := drop_at hy
 rw [e1, e2]
 have hl : (P.take j).length = j := by simp; omega
 rw [List.append_assoc, List.set_append_right _ _ (by omega), List.set_append_right _ _ (by omega), hl]
 simp
theorem midK_end {P : List α} {x : α} {rest : List α} : midK P x P.length rest = P ++ x :: rest := by unfold midK; simp
theorem midK_ins {P : List α} {x : α} {rest : List α} : midK P x (posK key P x P.length) rest = insK key P x ++ rest := by unfold midK insK; simp
end
/-- The first cells of block g hold these duties. -/
def RowE (tt : TypeId) (NN : Nat) (w : World) (g : Nat) (l : List DutE) : Prop := ∃ (cs : Array Value), Blk w g tt cs ∧ cs.size = NN ∧ ∀ (k : Nat) (x : DutE), l[k]? = some x → cs[k]? = some x.1
section
variable {tt : TypeId} {NN : Nat} {w W : World} {g : Nat} {l : List DutE}
theorem RowE.later (h : RowE tt NN w g l) (hl : Later w W) : RowE tt NN W g l := let ⟨cs, hb, hc⟩ := h; ⟨cs, hb.later hl, hc⟩
theorem RowE.cells (h : RowE tt NN w g l) {k : Nat} {x : DutE} (hx : l[k]? = some x) : ∀ W [Later w W], W.cell? ⟨g, k, none⟩ = some x.1 := fun W hW => by
 obtain ⟨cs, hb, _, hc⟩ := h.later hW
 exact (hb.cell _).trans (hc k x hx)
theorem RowE.frozens (h : RowE tt NN w g l) : ∀ (i : Nat) (W : World) [Later w W], W.frozen? ⟨g, i, none⟩ = false := fun i W hW => let ⟨_, hb, _⟩ := h.later hW; hb.frozen i
theorem RowE.put (h : RowE tt NN w g l) {k : Nat} (hk : k < l.length) (y : DutE) : RowE tt NN (w.setCell ⟨g, k, none⟩ y.1) g (l.set k y) := by
 obtain ⟨cs, hb, hsz, hc⟩ := h
 refine ⟨_, hb.set_ k _, by simp [hsz], fun j x hx => ?_⟩
 have hs : k < cs.size := (Array.getElem?_eq_some_iff.1 (hc k l[k] (List.getElem?_eq_getElem hk))).1
 by_cases e : j = k
 ·subst e
  rw [List.getElem?_set_self hk] at hx
  cases hx
  exact set_eq _ hs
 ·rw [List.getElem?_set_ne (Ne.symm e)] at hx
  rw [set_ne _ e]
  exact hc j x hx
end
/-- What the sort may read of a duty, wherever it lies. -/
structure DutRead (w : World) (g : Nat) (x : DutE) : Prop where
 own : ∃ A n c, x.1 = .slice A n c ∧ DutyOw w A n c ⟨x.2.1⟩ x.2.2
 far : g ∉ x.2.2
 pos : 0 < x.2.1.length
 pos0 : 0 < (x.2.1.headD []).length
theorem DutRead.touch {w W : World} {g : Nat} {x : DutE} (h : DutRead w g x) (hT : Touch [g] w W) : DutRead W g x := by
 obtain ⟨A, n, c, e, ho⟩ := h.own
 exact ⟨⟨A, n, c, e, ho.touch hT fun z hz hm => h.far (by rw [List.mem_singleton.1 hm] at hz; exact hz)⟩, h.far, h.pos, h.pos0⟩
set_option maxHeartbeats 1000000 in
theorem duty_cmp {w : World} {cA eA : Option Addr} {cn cc en ec : Nat} {d d' : List (List Int)} (h : DutyAt w cA cn cc ⟨d⟩) (h' : DutyAt w eA en ec ⟨d'⟩) (hd : 0 < d.length) (hd' : 0 < d'.length) (hp : 0 < (d.headD []).length) (hp' : 0 < (d'.headD []).length) :
  Calls Tryz.prog 104 #[.agg #[.slice cA cn cc], .agg #[.slice eA en ec]] w (Ret (.int .i64 (cmpI (keyD d) (keyD d'))) w) := by
 have hP := h.l_Pieces
 have hP' := h'.l_Pieces
 simp only at hP hP'
 obtain ⟨b1, o1, A1, n1, c1, x, rfl, hx, hc1, hi1⟩ := Sl.row_ hP (k := 0) (by rw [hP.len]; exact hd)
 obtain ⟨b2, o2, A2, n2, c2, y, rfl, hy, hc2, hi2⟩ := Sl.row_ hP' (k := 0) (by rw [hP'.len]; exact hd')
 have ex : d.headD [] = x := headP_of hx.out
 have ey : d'.headD [] = y := headP_of hy.out
 rw [ex] at hp
 rw [ey] at hp'
 obtain ⟨b3, o3, v, rfl, hv, hc3, _⟩ := Ints.at_ hi1 (k := 0) (by rw [hi1.len]; exact hp)
 obtain ⟨b4, o4, u, rfl, hu, hc4, _⟩ := Ints.at_ hi2 (k := 0) (by rw [hi2.len]; exact hp')
 have HK1 : Hid (keyD d = v) := by show _ = _; unfold keyD; rw [ex]; exact headI_of hv.out
 have HK2 : Hid (keyD d' = u) := by show _ = _; unfold keyD; rw [ey]; exact headI_of hu.out
 rw [HK1.out, HK2.out]
 have hcn : (0 : Int) < (cn : Int) := by rw [hP.len]; omega
 have hen : (0 : Int) < (en : Int) := by rw [hP'.len]; omega
 have hn1 : (0 : Int) < (n1 : Int) := by rw [hi1.len]; omega
 have hn2 : (0 : Int) < (n2 : Int) := by rw [hi2.len]; omega
 have hcn' : 0 < cn := by omega
 have hen' : 0 < en := by omega
 have hn1' : 0 < n1 := by omega
 have hn2' : 0 < n2 := by omega
 simp only [Nat.add_zero] at hc1 hc2 hc3 hc4
 clear h h' hP hP' hx hy hi1 hi2 ex ey hp hp' hd hd' hv hu
 have HB0 : ∀ W [Later ((w.alloc (.cells #[.slice (some ⟨b1,  o1,  none⟩) cn cc] 76)).alloc (.cells #[.slice (some ⟨b2,  o2,  none⟩) en ec] 76)) W] (j : Nat), W.cell? ⟨w.heap.size, j, none⟩ = #[.slice (some ⟨b1,  o1,  none⟩) cn cc][j]? := Later.boxes (t := 76) (fr := (0, 0)) ((heap_old (by simp; try omega)).trans (heap_new (by simp; try omega))); have HB1 : ∀ W [Later ((w.alloc (.cells #[.slice (some ⟨b1,  o1,  none⟩) cn cc] 76)).alloc (.cells #[.slice (some ⟨b2,  o2,  none⟩) en ec] 76)) W] (j : Nat), W.cell? ⟨w.heap.size + 1, j, none⟩ = #[.slice (some ⟨b2,  o2,  none⟩) en ec][j]? := Later.boxes (t := 76) (fr := (0, 0)) (heap_new (by simp; try omega)); obtain ⟨wb, hwb⟩ : ∃ wb : World, wb = ((w.alloc (.cells #[.slice (some ⟨b1,  o1,  none⟩) cn cc] 76)).alloc (.cells #[.slice (some ⟨b2,  o2,  none⟩) en ec] 76)) := ⟨_, rfl⟩; haveI hbW : Later wb ((w.alloc (.cells #[.slice (some ⟨b1,  o1,  none⟩) cn cc] 76)).alloc (.cells #[.slice (some ⟨b2,  o2,  none⟩) en ec] 76)) := (by rw [hwb]; exact Later.rfl_); haveI hww : Later w wb := (by rw [hwb]; infer_instance); rw [← hwb] at HB0; rw [← hwb] at HB1; have hbE := Lib.hid (congrArg (fun x : World => x.heap.size) hwb); clear hwb
 clear hbE
 go_enter Tryz.func104, Tryz.ntmps104
 go_wp2_with fail
 refine gO (S := (fun w' => Later wb w' ∧ Later w w')) (by kernel_rfl) (by exact ⟨inferInstance, inferInstance⟩) (fun _ _ _ _ _ h => h) (fun hHeld hZq => ?_)
 refine gT 0 rfl (by kernel_rfl) (by intro w' hSw; go_simp <;> rfl) hZq hHeld ?_; simp only [Act.put, sA, sZ, sS]
 refine gT 1 rfl (by kernel_rfl) (by intro w' hSw; go_simp <;> rfl) hZq hHeld ?_; simp only [Act.put, sA, sZ, sS]
 refine gT 2 rfl (by kernel_rfl) (by intro w' hSw; go_simp <;> rfl) hZq hHeld ?_; simp only [Act.put, sA, sZ, sS]
 refine gT 3 rfl (by kernel_rfl) (by intro w' hSw; go_simp <;> rfl) hZq hHeld ?_; simp only [Act.put, sA, sZ, sS]
 refine gT 4 rfl (by kernel_rfl) (by intro w' hSw; go_simp <;> rfl) hZq hHeld ?_; simp only [Act.put, sA, sZ, sS]
 refine gT 5 rfl (by kernel_rfl) (by intro w' hSw; go_simp <;> rfl) hZq hHeld ?_; simp only [Act.put, sA, sZ, sS]
 refine gT 6 rfl (by kernel_rfl) (by intro w' hSw; go_simp <;> rfl) hZq hHeld ?_; simp only [Act.put, sA, sZ, sS]
 refine gT 7 rfl (by kernel_rfl) (by intro w' hSw; go_simp <;> rfl) hZq hHeld ?_; simp only [Act.put, sA, sZ, sS]
 refine gT 8 rfl (by kernel_rfl) (by intro w' hSw; go_simp <;> rfl) hZq hHeld ?_; simp only [Act.put, sA, sZ, sS]
 refine gT 9 rfl (by kernel_rfl) (by intro w' hSw; go_simp <;> rfl) hZq hHeld ?_; simp only [Act.put, sA, sZ, sS]
 refine gT 10 rfl (by kernel_rfl) (by intro w' hSw; go_simp <;> rfl) hZq hHeld ?_; simp only [Act.put, sA, sZ, sS]
 refine gT 11 rfl (by kernel_rfl) (by intro w' hSw; go_simp <;> rfl) hZq hHeld ?_; simp only [Act.put, sA, sZ, sS]
 refine gE 12 rfl (by kernel_rfl) (fun K hK => ?_)
 go_simp
 (go_at_call 102; (refine (cmp_Compare v u _).mono ?_; rintro e w' ⟨rfl, rfl⟩))
 refine hK.out _ _ (by exact ⟨inferInstance, inferInstance⟩) (fun hHeld => ?_)
 try simp only [Act.put, sA, sZ, sS]
 refine gT 13 rfl (by kernel_rfl) (by intro w' hSw; go_simp <;> rfl) hZq hHeld ?_; simp only [Act.put, sA, sZ, sS]
 refine wpAnyH_done (by kernel_rfl) ?_ _
 go_wp2
 go_ret
 exact ⟨rfl, hww.trans inferInstance⟩
theorem cmpI_neg {a b : Int} : cmpI a b < 0 ↔ a < b := by
 unfold cmpI; split
 ·omega
 ·split <;> omega
/-- What a sort in place hands back. -/
def RetSortE (tt : TypeId) (NN : Nat) (g : Nat) (L : List DutE) (w : World) (e : Ending) (w' : World) : Prop := (∃ v, e = .returned v) ∧ RowE tt NN w' g (sortK keyE L) ∧ Touch [g] w w'
set_option maxHeartbeats 8000000 in
theorem slices_insE {tt : TypeId} {NN : Nat} {w : World} {g n c : Nat} {L : List DutE} (hR : RowE tt NN w g L) (hn : n = L.length) (h8 : n ≤ 8) (hrd : ∀ x, x ∈ L → DutRead w g x) :
  Calls Tryz.prog 140 #[.slice (some ⟨g, 0, none⟩) n c, .int .i64 0, .int .i64 (n : Int), .func (.func 104) #[] #[]] w (RetSortE tt NN g L w) := by
 have HL := Lib.hid hn
 have HRD := Lib.hid hrd
 have HR0 : Hid (RowE tt NN w g (sortK keyE (L.take 1) ++ L.drop 1)) := by
  cases L with
  | nil => exact hR
  | cons x L => exact hR
 clear hR hn hrd
 go_enter Tryz.func140, Tryz.ntmps140
 go_wp2_with fail
 go_loopw [8] (fun iv wr => ∃ i : Nat, 1 ≤ i ∧ i ≤ n + 1 ∧ iv = .int .i64 i ∧ Hid (RowE tt NN wr g (sortK keyE (L.take i) ++ L.drop i)) ∧ Hid (Touch [g] w wr)) (fun iv _ => n + 1 - (intOf iv).toNat)
 case atStart => exact ⟨1, by omega, by omega, rfl, HR0, Lib.hid Touch.refl_⟩
 case round =>
  obtain ⟨i, hi1, hi, rfl, HR, HT0⟩ := hrel
  by_cases hin : i < n
  ·have hii : (i : Int) < n := by omega
   obtain ⟨x, hx⟩ : ∃ x, L[i]? = some x := ⟨_, List.getElem?_eq_getElem (by have := HL.out; omega)⟩
   obtain ⟨P, hP⟩ : ∃ P, sortK keyE (L.take i) = P := ⟨_, rfl⟩
   obtain ⟨rest, hrest⟩ : ∃ r, L.drop (i + 1) = r := ⟨_, rfl⟩
   have hPl : P.length = i := by rw [← hP, sortK_len]; simp; have := HL.out; omega
   have HPL := Lib.hid hPl
   have HM : Hid (RowE tt NN wr g (midK P x i rest)) := by
    have h9 := HR.out
    rw [hP, drop_at hx, hrest] at h9
    rw [show midK P x i rest = P ++ x :: rest by have := midK_end (P := P) (x := x) (rest := rest); rw [hPl] at this; exact this]
    exact h9
   have HNXT : Hid (sortK keyE (L.take (i + 1)) ++ L.drop (i + 1) = insK keyE P x ++ rest) := by show _ = _; rw [sortK_step hx, hP, hrest]
   have HXL : Hid (x ∈ L) := List.mem_of_getElem? hx
   have HPM : Hid (∀ y, y ∈ P → y ∈ L) := fun y hy => by rw [← hP] at hy; exact List.mem_of_mem_take ((sortK_perm _).mem_iff.1 hy)
   clear HR hx hP hrest hPl
   go_wp2_with fail
   go_loopw [9] (fun jv wr => ∃ j : Nat, j ≤ i ∧ jv = .int .i64 j ∧ Hid (RowE tt NN wr g (midK P x j rest)) ∧ Hid (posK keyE P x i = posK keyE P x j) ∧ Hid (Touch [g] w wr)) (fun jv _ => (intOf jv).toNat)
   case atStart => exact ⟨i, Nat.le_refl _, rfl, HM, rfl, HT0⟩
   case round =>
    obtain ⟨j, hj, rfl, HM, HPO, HT⟩ := hrel
    by_cases hj0 : j = 0
    ·have hjn : ¬ (0 : Int) < j := by omega
     have hjd : decide ((0 : Int) < (j : Int)) = false := decide_eq_false hjn
     have hjd2 : decide (0 < j) = false := decide_eq_false (by omega)
     have HNX : Hid (RowE tt NN wr.drew g (sortK keyE (L.take (i + 1)) ++ L.drop (i + 1))) := by
      rw [HNXT.out, ← midK_ins, HPL.out, HPO.out, hj0]
      have h9 := HM.out
      rw [hj0] at h9
      exact Lib.hid (h9.later inferInstance)
     have HJ0 := Lib.hid hj0
     clear hj0 HM
     go_wp2_with fail
     refine gO (S := (fun w' => Later wr w')) (by kernel_rfl) (by exact inferInstance) (fun _ _ _ _ _ h => h) (fun hHeld hZq => ?_)
     refine gT 0 rfl (by kernel_rfl) (by intro w' hSw; go_simp <;> rfl) hZq hHeld ?_; simp only [Act.put, sA, sZ, sS]
     refine gT 1 rfl (by kernel_rfl) (by intro w' hSw; go_simp <;> rfl) hZq hHeld ?_; simp only [Act.put, sA, sZ, sS]
     refine gT 2 rfl (by kernel_rfl) (by intro w' hSw; go_simp <;> rfl) hZq hHeld ?_; simp only [Act.put, sA, sZ, sS]
     refine gT 3 rfl (by kernel_rfl) (by intro w' hSw; go_simp <;> rfl) hZq hHeld ?_; simp only [Act.put, sA, sZ, sS]
     refine gU 4 rfl (by kernel_rfl) hZq hHeld ?_; simp only [Act.put, sA, sZ, sS]
     refine gU 5 rfl (by kernel_rfl) hZq hHeld ?_; simp only [Act.put, sA, sZ, sS]
     refine gU 6 rfl (by kernel_rfl) hZq hHeld ?_; simp only [Act.put, sA, sZ, sS]
     refine gU 7 rfl (by kernel_rfl) hZq hHeld ?_; simp only [Act.put, sA, sZ, sS]
     refine gU 8 rfl (by kernel_rfl) hZq hHeld ?_; simp only [Act.put, sA, sZ, sS]
     refine gU 9 rfl (by kernel_rfl) hZq hHeld ?_; simp only [Act.put, sA, sZ, sS]
     refine gU 10 rfl (by kernel_rfl) hZq hHeld ?_; simp only [Act.put, sA, sZ, sS]
     refine gU 11 rfl (by kernel_rfl) hZq hHeld ?_; simp only [Act.put, sA, sZ, sS]
     refine gU 12 rfl (by kernel_rfl) hZq hHeld ?_; simp only [Act.put, sA, sZ, sS]
     refine gU 13 rfl (by kernel_rfl) hZq hHeld ?_; simp only [Act.put, sA, sZ, sS]
     refine gU 14 rfl (by kernel_rfl) hZq hHeld ?_; simp only [Act.put, sA, sZ, sS]
     refine gU 15 rfl (by kernel_rfl) hZq hHeld ?_; simp only [Act.put, sA, sZ, sS]
     refine gT 16 rfl (by kernel_rfl) (by intro w' hSw; go_simp <;> rfl) hZq hHeld ?_; simp only [Act.put, sA, sZ, sS]
     refine wpAnyH_done (by kernel_rfl) ?_ _
     go_wp2
     go_roundw
     case rel => exact ⟨i + 1, by omega, by omega, by go_num, HNX, Lib.hid (HT.out.trans (Touch.of_later inferInstance))⟩
     case measure => simp [intOf]; omega
    obtain ⟨m, hm⟩ : ∃ m, j = m + 1 := ⟨j - 1, by omega⟩
    have hjn : (0 : Int) < j := by omega
    have hjn2 : 0 < j := by omega
    have hjd : decide ((0 : Int) < (j : Int)) = true := decide_eq_true hjn
    have hwj : IntKind.i64.wrap ((j : Int) - 1) = (m : Int) := by rw [IntKind.wrap_i64]; omega
    obtain ⟨y, hy⟩ : ∃ y, P[m]? = some y := ⟨_, List.getElem?_eq_getElem (by have := HPL.out; omega)⟩
    have hjx := midK_x (P := P) (x := x) (j := j) (rest := rest) (by have := HPL.out; omega)
    have hmy : (midK P x j rest)[m]? = some y := by rw [hm]; exact midK_y hy
    have rx := (HRD.out x HXL.out).touch HT.out
    have ry := (HRD.out y (HPM.out y (List.mem_of_getElem? hy))).touch HT.out
    obtain ⟨xA, xn, xc, hxv, hxo⟩ := rx.own
    obtain ⟨yA, yn, yc, hyv, hyo⟩ := ry.own
    have hx0 := HM.out.cells hjx
    have hy0 := HM.out.cells hmy
    rw [hxv] at hx0
    rw [hyv] at hy0
    have hfr := HM.out.frozens
    have hjl : j < n := by omega
    have hml : m < n := by omega
    have hjli : (j : Int) < n := by omega
    have hmli : (m : Int) < n := by omega
    have hm0 : (0 : Int) ≤ m := by omega
    have HSW : Hid (((midK P x j rest).set j y).set m x = midK P x m rest) := by show _ = _; rw [hm]; exact midK_swap hy
    have HLN : Hid (j < (midK P x j rest).length ∧ m < (midK P x j rest).length) := ⟨(List.getElem?_eq_some_iff.1 hjx).1, (List.getElem?_eq_some_iff.1 hmy).1⟩
    have HPM2 : Hid (posK keyE P x j = if keyE x < keyE y then posK keyE P x m else j) := by
     show _ = _
     rw [hm]; exact posK_at hy
    have HMJ := Lib.hid hm
    have HRX := Lib.hid rx
    have HRY := Lib.hid ry
    have HXO := Lib.hid hxo.reads
    have HYO := Lib.hid hyo.reads
    have HXV := Lib.hid hxv
    have HYV := Lib.hid hyv
    obtain ⟨v, hv⟩ : ∃ v, cmpI (keyD x.2.1) (keyD y.2.1) = v := ⟨_, rfl⟩
    have HV := Lib.hid hv
    clear hj0 hm hy hjx hmy rx ry hxv hyv hxo hyo
    by_cases hlt : keyE x < keyE y
    ·have hvn : v < 0 := by rw [← hv]; exact cmpI_neg.2 hlt
     have HPO2 : Hid (posK keyE P x i = posK keyE P x m) := by show _ = _; rw [HPO.out, HPM2.out, if_pos hlt]
     clear hv HPM2 HPO hlt
     go_wp2_with fail
     refine gO (S := (fun w' => Later wr w')) (by kernel_rfl) (by exact inferInstance) (fun _ _ _ _ _ h => h) (fun hHeld hZq => ?_)
     refine gT 0 rfl (by kernel_rfl) (by intro w' hSw; go_simp <;> rfl) hZq hHeld ?_; simp only [Act.put, sA, sZ, sS]
     refine gT 1 rfl (by kernel_rfl) (by intro w' hSw; go_simp <;> rfl) hZq hHeld ?_; simp only [Act.put, sA, sZ, sS]
     refine gT 2 rfl (by kernel_rfl) (by intro w' hSw; go_simp <;> rfl) hZq hHeld ?_; simp only [Act.put, sA, sZ, sS]
     refine gT 3 rfl (by kernel_rfl) (by intro w' hSw; go_simp <;> rfl) hZq hHeld ?_; simp only [Act.put, sA, sZ, sS]
     refine gT 4 rfl (by kernel_rfl) (by intro w' hSw; go_simp <;> rfl) hZq hHeld ?_; simp only [Act.put, sA, sZ, sS]
     refine gT 5 rfl (by kernel_rfl) (by intro w' hSw; go_simp <;> rfl) hZq hHeld ?_; simp only [Act.put, sA, sZ, sS]
     refine gT 6 rfl (by kernel_rfl) (by intro w' hSw; go_simp <;> rfl) hZq hHeld ?_; simp only [Act.put, sA, sZ, sS]
     refine gT 7 rfl (by kernel_rfl) (by intro w' hSw; go_simp <;> rfl) hZq hHeld ?_; simp only [Act.put, sA, sZ, sS]
     refine gT 8 rfl (by kernel_rfl) (by intro w' hSw; go_simp <;> rfl) hZq hHeld ?_; simp only [Act.put, sA, sZ, sS]
     refine gT 9 rfl (by kernel_rfl) (by intro w' hSw; go_simp <;> rfl) hZq hHeld ?_; simp only [Act.put, sA, sZ, sS]
     refine gT 10 rfl (by kernel_rfl) (by intro w' hSw; go_simp <;> rfl) hZq hHeld ?_; simp only [Act.put, sA, sZ, sS]
     refine gT 11 rfl (by kernel_rfl) (by intro w' hSw; go_simp <;> rfl) hZq hHeld ?_; simp only [Act.put, sA, sZ, sS]
     refine gT 12 rfl (by kernel_rfl) (by intro w' hSw; go_simp <;> rfl) hZq hHeld ?_; simp only [Act.put, sA, sZ, sS]
     refine gT 13 rfl (by kernel_rfl) (by intro w' hSw; go_simp <;> rfl) hZq hHeld ?_; simp only [Act.put, sA, sZ, sS]
     refine gE 14 rfl (by kernel_rfl) (fun K hK => ?_)
     go_simp
     (go_at_call 104; refine (duty_cmp (HXO.out.later inferInstance) (HYO.out.later inferInstance) HRX.out.pos HRY.out.pos HRX.out.pos0 HRY.out.pos0).mono ?_; rw [HV.out]; rintro e w4 ⟨rfl, L4⟩; have Y4 := Later.trans (w := wr) inferInstance L4)
     refine hK.out _ _ (by exact inferInstance) (fun hHeld => ?_)
     try simp only [Act.put, sA, sZ, sS]
     refine gT 15 rfl (by kernel_rfl) (by intro w' hSw; go_simp <;> rfl) hZq hHeld ?_; simp only [Act.put, sA, sZ, sS]
     refine gT 16 rfl (by kernel_rfl) (by intro w' hSw; go_simp <;> rfl) hZq hHeld ?_; simp only [Act.put, sA, sZ, sS]
     refine wpAnyH_done (by kernel_rfl) ?_ _
     go_wp2_with fail
     refine gO (S := (fun w' => Touch [g] w4 w')) (by kernel_rfl) (by first | exact Touch.of_later inferInstance | exact Touch.refl_.drew | exact ((Touch.refl_.set_ (by simp) _ _).drew) | exact hT15 | exact hT15.set_ (by simp) _ _) (fun _ _ _ _ _ h => h) (fun hHeld hZq => ?_)
     refine gT 0 rfl (by kernel_rfl) (by intro w' hSw; go_simp <;> rfl) hZq hHeld ?_; simp only [Act.put, sA, sZ, sS]
     refine gT 1 rfl (by kernel_rfl) (by intro w' hSw; go_simp <;> rfl) hZq hHeld ?_; simp only [Act.put, sA, sZ, sS]
     refine gT 2 rfl (by kernel_rfl) (by intro w' hSw; go_simp <;> rfl) hZq hHeld ?_; simp only [Act.put, sA, sZ, sS]
     refine gT 3 rfl (by kernel_rfl) (by intro w' hSw; go_simp <;> rfl) hZq hHeld ?_; simp only [Act.put, sA, sZ, sS]
     refine gT 4 rfl (by kernel_rfl) (by intro w' hSw; go_simp <;> rfl) hZq hHeld ?_; simp only [Act.put, sA, sZ, sS]
     refine gT 5 rfl (by kernel_rfl) (by intro w' hSw; go_simp <;> rfl) hZq hHeld ?_; simp only [Act.put, sA, sZ, sS]
     refine gT 6 rfl (by kernel_rfl) (by intro w' hSw; go_simp <;> rfl) hZq hHeld ?_; simp only [Act.put, sA, sZ, sS]
     refine gT 7 rfl (by kernel_rfl) (by intro w' hSw; go_simp <;> rfl) hZq hHeld ?_; simp only [Act.put, sA, sZ, sS]
     refine gT 8 rfl (by kernel_rfl) (by intro w' hSw; go_simp <;> rfl) hZq hHeld ?_; simp only [Act.put, sA, sZ, sS]
     refine gT 10 rfl (by kernel_rfl) (by intro w' hSw; go_simp <;> rfl) hZq hHeld ?_; simp only [Act.put, sA, sZ, sS]
     refine gT 11 rfl (by kernel_rfl) (by intro w' hSw; go_simp <;> rfl) hZq hHeld ?_; simp only [Act.put, sA, sZ, sS]
     refine gT 12 rfl (by kernel_rfl) (by intro w' hSw; go_simp <;> rfl) hZq hHeld ?_; simp only [Act.put, sA, sZ, sS]
     refine wpAnyH_ready (rs := [9, 13]) (by kernel_rfl) (by simp) (AllReadyH.cons rfl (fun K hK => ?r4x0_1_2_3_4_5_6_7_8_10_11_12_9) (AllReadyH.cons rfl (fun K hK => ?r4x0_1_2_3_4_5_6_7_8_10_11_12_13) AllReadyH.nil))
     case' r4x0_1_2_3_4_5_6_7_8_10_11_12_9 =>
      go_simp
      skip
      refine hK.out _ _ (by first | exact Touch.of_later inferInstance | exact Touch.refl_.drew | exact ((Touch.refl_.set_ (by simp) _ _).drew) | exact hT15 | exact hT15.set_ (by simp) _ _) (fun hHeld => ?_)
      try simp only [Act.put, sA, sZ, sS]
      refine gE 13 rfl (by kernel_rfl) (fun K hK => ?_)
      go_simp
      skip
      refine hK.out _ _ (by first | exact Touch.of_later inferInstance | exact Touch.refl_.drew | exact ((Touch.refl_.set_ (by simp) _ _).drew) | exact hT15 | exact hT15.set_ (by simp) _ _) (fun hHeld => ?_)
      try simp only [Act.put, sA, sZ, sS]
      refine gT 14 rfl (by kernel_rfl) (by intro w' hSw; go_simp <;> rfl) hZq hHeld ?_; simp only [Act.put, sA, sZ, sS]
      refine gE 15 rfl (by kernel_rfl) (fun K hK => ?_)
      go_simp
      (obtain ⟨w15, h15⟩ : ∃ W : World, W = (w4.setCell ⟨g, j, none⟩ (.slice yA yn yc)).drew := ⟨_, rfl⟩; rw [← h15]; have hR15 : RowE tt NN w15 g ((midK P x j rest).set j y) := (by rw [h15, ← HYV.out]; exact ((HM.out.later (inferInstance : Later wr w4)).put HLN.out.1 y).later inferInstance); have hT15 : Touch [g] w4 w15 := (by rw [h15]; exact (Touch.refl_.set_ (by simp) _ _).drew); have hf15 := hR15.frozens; obtain ⟨zz, hzz⟩ : ∃ z, ((midK P x j rest).set j y)[m]? = some z := ⟨_, List.getElem?_eq_getElem (by rw [List.length_set]; exact HLN.out.2)⟩; have hz15 := hR15.cells hzz; clear h15 hx0 hy0 hfr hzz)
      refine hK.out _ _ (by first | exact Touch.of_later inferInstance | exact Touch.refl_.drew | exact ((Touch.refl_.set_ (by simp) _ _).drew) | exact hT15 | exact hT15.set_ (by simp) _ _) (fun hHeld => ?_)
      try simp only [Act.put, sA, sZ, sS]
      refine gT 16 rfl (by kernel_rfl) (by intro w' hSw; go_simp <;> rfl) hZq hHeld ?_; simp only [Act.put, sA, sZ, sS]
      refine gE 17 rfl (by kernel_rfl) (fun K hK => ?_)
      go_simp
      skip
      refine hK.out _ _ (by first | exact Touch.of_later inferInstance | exact Touch.refl_.drew | exact ((Touch.refl_.set_ (by simp) _ _).drew) | exact hT15 | exact hT15.set_ (by simp) _ _) (fun hHeld => ?_)
      try simp only [Act.put, sA, sZ, sS]
      refine wpAnyH_done (by kernel_rfl) ?_ _
     case' r4x0_1_2_3_4_5_6_7_8_10_11_12_13 =>
      go_simp
      skip
      refine hK.out _ _ (by first | exact Touch.of_later inferInstance | exact Touch.refl_.drew | exact ((Touch.refl_.set_ (by simp) _ _).drew) | exact hT15 | exact hT15.set_ (by simp) _ _) (fun hHeld => ?_)
      try simp only [Act.put, sA, sZ, sS]
      refine gE 9 rfl (by kernel_rfl) (fun K hK => ?_)
      go_simp
      skip
      refine hK.out _ _ (by first | exact Touch.of_later inferInstance | exact Touch.refl_.drew | exact ((Touch.refl_.set_ (by simp) _ _).drew) | exact hT15 | exact hT15.set_ (by simp) _ _) (fun hHeld => ?_)
      try simp only [Act.put, sA, sZ, sS]
      refine gT 14 rfl (by kernel_rfl) (by intro w' hSw; go_simp <;> rfl) hZq hHeld ?_; simp only [Act.put, sA, sZ, sS]
      refine gE 15 rfl (by kernel_rfl) (fun K hK => ?_)
      go_simp
      (obtain ⟨w15, h15⟩ : ∃ W : World, W = (w4.setCell ⟨g, j, none⟩ (.slice yA yn yc)).drew := ⟨_, rfl⟩; rw [← h15]; have hR15 : RowE tt NN w15 g ((midK P x j rest).set j y) := (by rw [h15, ← HYV.out]; exact ((HM.out.later (inferInstance : Later wr w4)).put HLN.out.1 y).later inferInstance); have hT15 : Touch [g] w4 w15 := (by rw [h15]; exact (Touch.refl_.set_ (by simp) _ _).drew); have hf15 := hR15.frozens; obtain ⟨zz, hzz⟩ : ∃ z, ((midK P x j rest).set j y)[m]? = some z := ⟨_, List.getElem?_eq_getElem (by rw [List.length_set]; exact HLN.out.2)⟩; have hz15 := hR15.cells hzz; clear h15 hx0 hy0 hfr hzz)
      refine hK.out _ _ (by first | exact Touch.of_later inferInstance | exact Touch.refl_.drew | exact ((Touch.refl_.set_ (by simp) _ _).drew) | exact hT15 | exact hT15.set_ (by simp) _ _) (fun hHeld => ?_)
      try simp only [Act.put, sA, sZ, sS]
      refine gT 16 rfl (by kernel_rfl) (by intro w' hSw; go_simp <;> rfl) hZq hHeld ?_; simp only [Act.put, sA, sZ, sS]
      refine gE 17 rfl (by kernel_rfl) (fun K hK => ?_)
      go_simp
      skip
      refine hK.out _ _ (by first | exact Touch.of_later inferInstance | exact Touch.refl_.drew | exact ((Touch.refl_.set_ (by simp) _ _).drew) | exact hT15 | exact hT15.set_ (by simp) _ _) (fun hHeld => ?_)
      try simp only [Act.put, sA, sZ, sS]
      refine wpAnyH_done (by kernel_rfl) ?_ _
     all_goals
      have HM2 := Lib.hid ((hR15.put (k := m) (by rw [List.length_set]; exact HLN.out.2) x))
      rw [HSW.out, HXV.out] at HM2
      go_wp2
      go_roundw
      case rel => exact ⟨m, by have := HMJ.out; omega, by go_num, HM2, HPO2, Lib.hid (((HT.out.trans (Touch.of_later Y4)).trans hT15).set_ (by simp) _ _)⟩
      case measure => have := HMJ.out; simp [intOf]; omega
    ·have hvn : ¬ v < 0 := by rw [← hv]; exact fun e => hlt (cmpI_neg.1 e)
     have HPO2 : Hid (posK keyE P x i = j) := by show _ = _; rw [HPO.out, HPM2.out, if_neg hlt]
     clear hv HPM2 HPO hlt
     go_wp2_with fail
     refine gO (S := (fun w' => Later wr w')) (by kernel_rfl) (by exact inferInstance) (fun _ _ _ _ _ h => h) (fun hHeld hZq => ?_)
     refine gT 0 rfl (by kernel_rfl) (by intro w' hSw; go_simp <;> rfl) hZq hHeld ?_; simp only [Act.put, sA, sZ, sS]
     refine gT 1 rfl (by kernel_rfl) (by intro w' hSw; go_simp <;> rfl) hZq hHeld ?_; simp only [Act.put, sA, sZ, sS]
     refine gT 2 rfl (by kernel_rfl) (by intro w' hSw; go_simp <;> rfl) hZq hHeld ?_; simp only [Act.put, sA, sZ, sS]
     refine gT 3 rfl (by kernel_rfl) (by intro w' hSw; go_simp <;> rfl) hZq hHeld ?_; simp only [Act.put, sA, sZ, sS]
     refine gT 4 rfl (by kernel_rfl) (by intro w' hSw; go_simp <;> rfl) hZq hHeld ?_; simp only [Act.put, sA, sZ, sS]
     refine gT 5 rfl (by kernel_rfl) (by intro w' hSw; go_simp <;> rfl) hZq hHeld ?_; simp only [Act.put, sA, sZ, sS]
     refine gT 6 rfl (by kernel_rfl) (by intro w' hSw; go_simp <;> rfl) hZq hHeld ?_; simp only [Act.put, sA, sZ, sS]
     refine gT 7 rfl (by kernel_rfl) (by intro w' hSw; go_simp <;> rfl) hZq hHeld ?_; simp only [Act.put, sA, sZ, sS]
     refine gT 8 rfl (by kernel_rfl) (by intro w' hSw; go_simp <;> rfl) hZq hHeld ?_; simp only [Act.put, sA, sZ, sS]
     refine gT 9 rfl (by kernel_rfl) (by intro w' hSw; go_simp <;> rfl) hZq hHeld ?_; simp only [Act.put, sA, sZ, sS]
     refine gT 10 rfl (by kernel_rfl) (by intro w' hSw; go_simp <;> rfl) hZq hHeld ?_; simp only [Act.put, sA, sZ, sS]
     refine gT 11 rfl (by kernel_rfl) (by intro w' hSw; go_simp <;> rfl) hZq hHeld ?_; simp only [Act.put, sA, sZ, sS]
     refine gT 12 rfl (by kernel_rfl) (by intro w' hSw; go_simp <;> rfl) hZq hHeld ?_; simp only [Act.put, sA, sZ, sS]
     refine gT 13 rfl (by kernel_rfl) (by intro w' hSw; go_simp <;> rfl) hZq hHeld ?_; simp only [Act.put, sA, sZ, sS]
     refine gE 14 rfl (by kernel_rfl) (fun K hK => ?_)
     go_simp
     (go_at_call 104; refine (duty_cmp (HXO.out.later inferInstance) (HYO.out.later inferInstance) HRX.out.pos HRY.out.pos HRX.out.pos0 HRY.out.pos0).mono ?_; rw [HV.out]; rintro e w4 ⟨rfl, L4⟩; have Y4 := Later.trans (w := wr) inferInstance L4)
     refine hK.out _ _ (by exact inferInstance) (fun hHeld => ?_)
     try simp only [Act.put, sA, sZ, sS]
     refine gT 15 rfl (by kernel_rfl) (by intro w' hSw; go_simp <;> rfl) hZq hHeld ?_; simp only [Act.put, sA, sZ, sS]
     refine gT 16 rfl (by kernel_rfl) (by intro w' hSw; go_simp <;> rfl) hZq hHeld ?_; simp only [Act.put, sA, sZ, sS]
     refine wpAnyH_done (by kernel_rfl) ?_ _
     have HNX : Hid (RowE tt NN w4 g (sortK keyE (L.take (i + 1)) ++ L.drop (i + 1))) := by
      rw [HNXT.out, ← midK_ins, HPL.out, HPO2.out]
      exact Lib.hid (HM.out.later inferInstance)
     go_wp2
     go_roundw
     case rel => exact ⟨i + 1, by omega, by omega, by go_num, HNX, Lib.hid (HT.out.trans (Touch.of_later inferInstance))⟩
     case measure => simp [intOf]; omega
  ·have hii : ¬ (i : Int) < n := by omega
   have HE : Hid (RowE tt NN wr g (sortK keyE L)) := by
    have h9 := HR.out
    rw [List.take_of_length_le (by have := HL.out; omega), List.drop_eq_nil_of_le (by have := HL.out; omega), List.append_nil] at h9
    exact h9
   clear HR
   go_wp2
   go_end0
   exact ⟨⟨_, rfl⟩, HE.out, HT0.out⟩
theorem bits_Len (n : Nat) (h : n ≤ 8) (w : World) : Calls Tryz.prog 123 #[.int .u64 (n : Int)] w (fun e w' => (∃ v, e = .returned (.int .i64 v)) ∧ w' = w) := by
 have key : ∀ m : Nat, m ≤ 8 → n = m → Calls Tryz.prog 123 #[.int .u64 (n : Int)] w (fun e w' => (∃ v, e = .returned (.int .i64 v)) ∧ w' = w) := by
  intro m hm e
  subst e
  match n, hm with
  | 0, _ | 1, _ | 2, _ | 3, _ | 4, _ | 5, _ | 6, _ | 7, _ | 8, _ =>
   go_enter Tryz.func123, Tryz.ntmps123
   go_wp2
   go_ret
   exact ⟨⟨_, rfl⟩, rfl⟩
 exact key n h rfl
set_option maxHeartbeats 2000000 in
theorem slices_pdqE {tt : TypeId} {NN : Nat} {w : World} {g n c : Nat} {L : List DutE} (v3 : Int) (hR : RowE tt NN w g L) (hn : n = L.length) (h8 : n ≤ 8) (hrd : ∀ x, x ∈ L → DutRead w g x) :
  Calls Tryz.prog 122 #[.slice (some ⟨g, 0, none⟩) n c, .int .i64 0, .int .i64 (n : Int), .int .i64 v3, .func (.func 104) #[] #[]] w (RetSortE tt NN g L w) := by
 have HR := Lib.hid hR
 have HN := Lib.hid hn
 have HRD := Lib.hid hrd
 have hn12 : (n : Int) ≤ 12 := by omega
 have hws : IntKind.i64.wrap ((n : Int) - 0) = (n : Int) := by rw [IntKind.wrap_i64]; omega
 have hws2 : IntKind.i64.wrap (n : Int) = (n : Int) := by rw [IntKind.wrap_i64]; omega
 clear hR hn hrd
 go_enter Tryz.func122, Tryz.ntmps122
 go_wp2_with fail
 go_loopw [1, 2] (fun av bv wr => av = .int .i64 0 ∧ bv = .int .i64 (n : Int) ∧ wr = w) (fun _ _ _ => 0)
 case atStart => exact ⟨rfl, rfl, rfl⟩
 case round =>
  obtain ⟨rfl, rfl, rfl⟩ := hrel
  go_wp2_with (go_at_call 140; refine (slices_insE HR.out HN.out h8 HRD.out).mono ?_; rintro e w4 ⟨⟨v, rfl⟩, hR4, hT4⟩; have HR4 := Lib.hid hR4; have HT4 := Lib.hid hT4; clear hR4 hT4)
  (first | go_end0 | ((try simp only [Exit.inBlock, Exit.then]); refine bodyPost_ret (results_none rfl _ _ _) rfl ?_))
  exact ⟨⟨_, rfl⟩, HR4.out, HT4.out⟩
set_option maxHeartbeats 2000000 in
theorem slices_SortE {tt : TypeId} {NN : Nat} {w : World} {g n c : Nat} {L : List DutE} (hR : RowE tt NN w g L) (hn : n = L.length) (h8 : n ≤ 8) (hrd : ∀ x, x ∈ L → DutRead w g x) :
  Calls Tryz.prog 103 #[.slice (some ⟨g, 0, none⟩) n c, .func (.func 104) #[] #[]] w (RetSortE tt NN g L w) := by
 have HR := Lib.hid hR
 have HN := Lib.hid hn
 have HRD := Lib.hid hrd
 have hun : IntKind.u64.wrap (n : Int) = (n : Int) := by rw [IntKind.wrap_u64]; omega
 clear hR hn hrd
 go_enter Tryz.func103, Tryz.ntmps103
 go_wp2_with first
  | (go_at_call 123; refine (bits_Len n h8 _).mono ?_; rintro e w3 ⟨⟨v3, rfl⟩, rfl⟩)
  | (go_at_call 122; refine (slices_pdqE v3 HR.out HN.out h8 HRD.out).mono ?_; rintro e w4 ⟨⟨v, rfl⟩, hR4, hT4⟩; have HR4 := Lib.hid hR4; have HT4 := Lib.hid hT4; clear hR4 hT4)
 go_end0
 exact ⟨⟨_, rfl⟩, HR4.out, HT4.out⟩
/-! ### Nothing to sort -/
theorem slices_ins0 {w : World} : Calls Tryz.prog 140 #[.slice none 0 0, .int .i64 0, .int .i64 0, .func (.func 104) #[] #[]] w (fun e w' => (∃ v, e = .returned v) ∧ Later w w') := by
 go_enter Tryz.func140, Tryz.ntmps140
 go_wp2_with fail
 go_loopw [8] (fun iv wr => iv = .int .i64 1 ∧ Later w wr) (fun _ _ => 0)
 case atStart => exact ⟨rfl, inferInstance⟩
 case round =>
  obtain ⟨rfl, hX⟩ := hrel
  go_wp2
  (first | go_end0 | ((try simp only [Exit.inBlock, Exit.then]); refine bodyPost_ret (results_none rfl _ _ _) rfl ?_))
  exact ⟨⟨_, rfl⟩, inferInstance⟩
theorem slices_pdq0 {w : World} (v3 : Int) : Calls Tryz.prog 122 #[.slice none 0 0, .int .i64 0, .int .i64 0, .int .i64 v3, .func (.func 104) #[] #[]] w (fun e w' => (∃ v, e = .returned v) ∧ Later w w') := by
 go_enter Tryz.func122, Tryz.ntmps122
 go_wp2_with fail
 go_loopw [1, 2] (fun av bv wr => av = .int .i64 0 ∧ bv = .int .i64 0 ∧ wr = w) (fun _ _ _ => 0)
 case atStart => exact ⟨rfl, rfl, rfl⟩
 case round =>
  obtain ⟨rfl, rfl, rfl⟩ := hrel
  go_wp2_with (go_at_call 140; refine (slices_ins0).mono ?_; rintro e w4 ⟨⟨v, rfl⟩, L4⟩)
  (first | go_end0 | ((try simp only [Exit.inBlock, Exit.then]); refine bodyPost_ret (results_none rfl _ _ _) rfl ?_))
  exact ⟨⟨_, rfl⟩, L4⟩
theorem slices_Sort0 {w : World} : Calls Tryz.prog 103 #[.slice none 0 0, .func (.func 104) #[] #[]] w (fun e w' => (∃ v, e = .returned v) ∧ Later w w') := by
 go_enter Tryz.func103, Tryz.ntmps103
 go_wp2_with first
  | (go_at_call 123; refine (bits_Len 0 (by omega) _).mono ?_; rintro e w3 ⟨⟨v3, rfl⟩, rfl⟩)
  | (go_at_call 122; refine (slices_pdq0 v3).mono ?_; rintro e w4 ⟨⟨v, rfl⟩, L4⟩)
 go_end0
 exact ⟨⟨_, rfl⟩, L4⟩
end Go.Proofs.YtknhebakebmlcaaGreat
