/-
 Duties: the duty in which a trip occurs (DutyOf).
-/
import Derived.Test.YtknhebakebmlcaaGreatTotal
namespace Go.Proofs.YtknhebakebmlcaaGreat
open Go Go.RowKit
set_option linter.unusedVariables false
set_option maxRecDepth 100000
theorem placeGo_has (d v : Int) (ps : List (List Int)) (k : Nat) : 0 ≤ (placeGo d v ps k).1 ↔ ps.any (fun p => decide (v ∈ p)) = true := by
 induction ps generalizing k with
 | nil => simp [placeGo]
 | cons x l ih =>
  simp only [placeGo, List.any_cons, Bool.or_eq_true]
  have hx := idx_neg_iff (p := intIs v) (l := x)
  have hm : x.any (intIs v) = true ↔ v ∈ x := by
   rw [List.any_eq_true]
   constructor
   ·rintro ⟨y, hy, he⟩
    have : y = v := by simpa [intIs] using he
    exact this ▸ hy
   ·exact fun h => ⟨v, h, by simp [intIs]⟩
  by_cases c : 0 ≤ idx (intIs v) x
  ·rw [if_pos c]
   have : x.any (intIs v) = true := by
    cases hh : x.any (intIs v) with
    | true => rfl
    | false => rw [hh] at hx; have := hx.2 rfl; omega
   simp [hm.1 this]
  ·rw [if_neg c, ih]
   have : ¬ v ∈ x := fun h => by
    have h2 := hm.2 h
    have := hx.1 (by omega)
    rw [h2] at this
    cases this
   simp [this]
theorem hasId_place (v : Int) (d : Duty) : hasId v d = decide (0 ≤ (placeOf 0 v d.Pieces).1) := by
 rw [Bool.eq_iff_iff, decide_eq_true_eq]
 unfold placeOf
 rw [placeGo_has]
 rfl
theorem impl_dutyOf1 {w0 w w1 : World} {eA0 : Option Addr} {en0 ec0 : Nat} {d : Duty} (h4 : DutyAt w1 eA0 en0 ec0 d) (hl4 : Later w1 w) (p : Addr) (v : Int) (hp : ∀ W [Later w0 W], W.cell? p = some (.int .i64 v)) (hl : Later w0 w) :
  Calls Tryz.prog 56 #[.agg #[.slice eA0 en0 ec0], .pointer (some p)] w (Ret (.bool (hasId v d)) w) := by
 have HB0 : ∀ W [Later (w.alloc (.cells #[.slice eA0 en0 ec0] 76)) W] (j : Nat), W.cell? ⟨w.heap.size, j, none⟩ = #[.slice eA0 en0 ec0][j]? := Later.boxes (t := 76) (fr := (0, 0)) (heap_new (by simp; try omega)); obtain ⟨wb, hwb⟩ : ∃ wb : World, wb = (w.alloc (.cells #[.slice eA0 en0 ec0] 76)) := ⟨_, rfl⟩; haveI hbW : Later wb (w.alloc (.cells #[.slice eA0 en0 ec0] 76)) := (by rw [hwb]; exact Later.rfl_); haveI hww : Later w wb := (by rw [hwb]; infer_instance); rw [← hwb] at HB0; have hbE := Lib.hid (congrArg (fun x : World => x.heap.size) hwb); clear hwb
 have hwb4 := hl4.trans hww
 have H4 := Lib.hid h4
 haveI hw0 : Later w0 wb := hl.trans hww
 have hpb : ∀ W [Later wb W], W.cell? p = some (.int .i64 v) := fun W hW => @hp W (hw0.trans hW)
 have HR := Lib.hid (hasId_place v d)
 clear hp h4
 go_enter Tryz.func56, Tryz.ntmps56
 go_wp2_with (go_at_call 57; refine (impl_placeIn H4.out.l_Pieces (hwb4.trans inferInstance) v).mono ?_; rintro e w2 ⟨rfl, L2⟩; have X2 := Later.trans (w := wb) inferInstance L2)
 go_ret
 exact ⟨ret_bool HR.out.symm, hww.trans inferInstance⟩
theorem slices_IndexDuty {w0 w : World} {A : Option Addr} {n c : Nat} {l : List Duty} (h : Dutys w0 A n c l) (hl : Later w0 w) (p : Addr) (v : Int) (hp : ∀ W [Later w0 W], W.cell? p = some (.int .i64 v)) :
  Calls Tryz.prog 55 #[.slice A n c, .func (.func 56) #[] #[.pointer (some p)]] w (Ret (.int .i64 (idx (hasId v) l)) w) := by
 have hn := h.le
 have Hl := Lib.hid h.len
 have HP : Hid (∀ W [Later w0 W], W.cell? p = some (.int .i64 v)) := hp
 clear hp
 go_enter Tryz.func55, Tryz.ntmps55
 go_wp2
 go_loopw [8] (fun i wr => ∃ k : Nat, k ≤ n ∧ i = .int .i64 k ∧ Hid (idxGo (hasId v) (l.drop k) k = idx (hasId v) l) ∧ Later w wr) (fun i _ => n - (intOf i).toNat)
 case atStart => exact ⟨0, by omega, rfl, rfl, inferInstance⟩
 case round =>
  obtain ⟨k, hk, rfl, HF, hX⟩ := hrel
  have hX0 := hl.trans hX
  by_cases hlt : k < n
  ·obtain ⟨b, o, eA0, en0, ec0, x, rfl, hx, hc0, hi⟩ := Dutys.at_ h hlt
   have HI := Lib.hid hi
   have HF1 := HF.out
   rw [drop_at hx.out] at HF1
   simp only [idxGo] at HF1
   clear HF hi
   by_cases hxy : hasId v x = true
   ·rw [if_pos hxy] at HF1
    have HF2 := Lib.hid HF1
    clear HF1
    go_wp2_with ((refine (impl_dutyOf1 HI.out hX0 p v HP.out hX0).mono ?_); rintro e w1 ⟨rfl, L1⟩; have X1 := hX.trans L1)
    go_ret
    exact ⟨ret_int HF2.out, inferInstance⟩
   ·rw [if_neg hxy] at HF1
    have HF2 := Lib.hid HF1
    have hxz : hasId v x = false := by simpa using hxy
    clear HF1 hxy
    go_wp2_with ((refine (impl_dutyOf1 HI.out hX0 p v HP.out hX0).mono ?_); rintro e w1 ⟨rfl, L1⟩; have X1 := hX.trans L1)
    go_roundw
    case rel => exact ⟨k + 1, by omega, by go_num, HF2, inferInstance⟩
    case measure => simp [intOf]; omega
  ·have HF2 : Hid (-1 = idx (hasId v) l) := by
    have h3 := HF.out
    rw [List.drop_eq_nil_of_le (by have := Hl.out; omega)] at h3
    exact h3
   clear HF
   go_wp2
   go_ret
   exact ⟨ret_int HF2.out, inferInstance⟩
theorem impl_dutyOf {w0 w : World} {A : Option Addr} {n c : Nat} {l : List Duty} (h : Dutys w0 A n c l) (hl : Later w0 w) (v : Int) :
  Calls Tryz.prog 34 #[.slice A n c, .int .i64 v] w (Ret (.int .i64 (dutyI l v)) w) := by
 obtain ⟨wb, hwb⟩ : ∃ wb : World, wb = w.alloc (.cells #[.int .i64 v] 3) := ⟨_, rfl⟩
 have HB1 : ∀ W [Later wb W], W.cell? ⟨w.heap.size, 0, none⟩ = some (.int .i64 v) := by rw [hwb]; exact fun W hW => @Later.boxes _ _ _ 3 (fr := (0, 0)) (heap_new (by simp)) W hW 0
 have hww : Later w wb := by rw [hwb]; infer_instance
 have hT' := Lib.hid ((h.later hl).later hww)
 have HB1' := Lib.hid HB1
 go_enter Tryz.func34, Tryz.ntmps34
 go_wp2_with (rw [← hwb]; go_at_call 55; refine (slices_IndexDuty hT'.out inferInstance _ v HB1'.out).mono ?_; rintro e w1 ⟨rfl, L1⟩)
 go_ret
 exact ⟨rfl, hww.trans inferInstance⟩
set_option maxHeartbeats 1000000 in
theorem spec_l13Duty {w0 w : World} {A : Option Addr} {n c : Nat} {l : List Duty} (h : Dutys w0 A n c l) (hl : Later w0 w) (v : Int) :
  Calls Tryz.prog 29 #[.slice A n c, .int .i64 v] w (Ret (.int .i64 (dutyI l v)) w) := by
 replace h := h.later hl
 have hn := h.le
 have Hl := Lib.hid h.len
 go_enter Tryz.func29, Tryz.ntmps29
 go_wp2_with fail
 go_loopw [5] (fun i wr => ∃ k : Nat, k ≤ n ∧ i = .int .i64 k ∧ Hid (idxGo (hasId v) (l.drop k) k = idx (hasId v) l) ∧ Later w wr) (fun i _ => n - (intOf i).toNat)
 case atStart => exact ⟨0, by omega, rfl, rfl, inferInstance⟩
 case round =>
  obtain ⟨k, hk, rfl, HF, hX⟩ := hrel
  by_cases hlt : k < n
  ·obtain ⟨b, o, eA0, en0, ec0, x, rfl, hx, hc0, hDu⟩ := Dutys.at_ h hlt
   have hP := hDu.l_Pieces
   have hpl := hP.le
   have Hpl := Lib.hid hP.len
   have HF1 : Hid ((if hasId v x = true then (k : Int) else idxGo (hasId v) (l.drop (k + 1)) (k + 1)) = idx (hasId v) l) := by
    have h3 := HF.out
    rw [drop_at hx.out] at h3
    exact h3
   clear HF hx hDu
   go_wp2_with fail
   go_loopw [6] (fun i wr' => ∃ m : Nat, m ≤ en0 ∧ i = .int .i64 m ∧ Hid ((x.Pieces.take m).any (fun p => decide (v ∈ p)) = false) ∧ Later w wr') (fun i _ => en0 - (intOf i).toNat)
   case atStart => exact ⟨0, by omega, rfl, rfl, inferInstance⟩
   case round =>
    obtain ⟨m, hm, rfl, HV, hY⟩ := hrel
    by_cases hmt : m < en0
    ·obtain ⟨b3, o3, A3, n3, c3, y, rfl, hy, hc3, hi⟩ := Sl.row_ hP hmt
     have HI := Lib.hid hi
     clear hi
     by_cases cB : v ∈ y
     ·have HB9 : Hid (decide (v ∈ y) = true) := decide_eq_true cB
      have HR : Hid ((k : Int) = idx (hasId v) l) := by
       have h3 := HF1.out
       have hh : hasId v x = true := any_at (p := fun p => decide (v ∈ p)) hy.out (decide_eq_true cB)
       rw [if_pos hh] at h3
       exact h3
      clear cB hy HV HF1
      go_wp2_with (go_at_call 49; refine (spec_l1Has HI.out inferInstance _).mono ?_; rw [HB9.out]; rintro e w8 ⟨rfl, L8⟩; have X8 := Later.trans (w := w) inferInstance L8)
      go_ret
      exact ⟨ret_int HR.out, inferInstance⟩
     ·have HB9 : Hid (decide (v ∈ y) = false) := decide_eq_false cB
      have HV2 := Lib.hid (any_snoc (p := fun p => decide (v ∈ p)) hy.out HV.out (decide_eq_false cB))
      clear cB hy HV
      go_wp2_with (go_at_call 49; refine (spec_l1Has HI.out inferInstance _).mono ?_; rw [HB9.out]; rintro e w8 ⟨rfl, L8⟩; have X8 := Later.trans (w := w) inferInstance L8)
      go_roundw
      case rel => exact ⟨m + 1, by omega, by go_num, HV2, inferInstance⟩
      case measure => simp [intOf]; omega
    ·have HF2 : Hid (idxGo (hasId v) (l.drop (k + 1)) (k + 1) = idx (hasId v) l) := by
      have h3 := HF1.out
      have h4 : hasId v x = false := by
       have := HV.out
       rw [List.take_of_length_le (by have := Hpl.out; omega)] at this
       exact this
      rw [if_neg (by rw [h4]; simp)] at h3
      exact h3
     clear HV HF1
     go_wp2_with fail
     go_roundw
     case rel => exact ⟨k + 1, by omega, by go_num, HF2, inferInstance⟩
     case measure => simp [intOf]; omega
  ·have HF2 : Hid (-1 = idx (hasId v) l) := by
    have h3 := HF.out
    rw [List.drop_eq_nil_of_le (by have := Hl.out; omega)] at h3
    exact h3
   clear HF
   go_wp2
   go_ret
   exact ⟨ret_int HF2.out, inferInstance⟩
end Go.Proofs.YtknhebakebmlcaaGreat
