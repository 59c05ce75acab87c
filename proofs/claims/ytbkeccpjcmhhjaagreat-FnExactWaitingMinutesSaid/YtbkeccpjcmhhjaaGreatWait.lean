/-
  Choices: WaitingMinutes on both sides.
-/
import Derived.Test.YtbkeccpjcmhhjaaGreatJp
import Derived.Test.YtbkeccpjcmhhjaaGreatHSpan
namespace Go.Proofs.YtbkeccpjcmhhjaaGreat
open Go Go.RowKit
set_option linter.unusedVariables false
set_option maxRecDepth 100000
set_option linter.unusedSimpArgs false
def okSpan (x : Span) : Bool := inB x.From 0 1799 && inB x.To 0 1799 && decide (x.From ≤ x.To)
theorem spec_l4Span (x : Span) (w : World) : Calls Tryz.prog 19 #[.agg #[.int .i64 x.From, .int .i64 x.To]] w (Ret (.bool (okSpan x)) w) := by
  go_enter Tryz.func19, Tryz.ntmps19
  go_wp2_with (go_at_call 36; refine (spec_l4Time _ _).mono ?_; rintro e w' ⟨rfl, rfl⟩)
  all_goals
    go_ret
    exact ⟨ret_bool (by simp_all [okSpan, okTime]), inferInstance⟩
theorem impl_isSpan (x : Span) (w : World) : Calls Tryz.prog 23 #[.agg #[.int .i64 x.From, .int .i64 x.To]] w (Ret (.bool (okSpan x)) w) := by
  go_enter Tryz.func23, Tryz.ntmps23
  go_wp2_with (go_at_call 43; refine (impl_IsValidTime _ _).mono ?_; rintro e w' ⟨rfl, rfl⟩)
  all_goals
    go_ret
    exact ⟨ret_bool (by simp_all [okSpan, okTime]), inferInstance⟩
def depGe (at_ : Int) (c : Choice) : Bool := decide (at_ ≤ c.Depart)
def wmGo (P : List Choice) : Nat → Int → Int → Int × Bool
  | 0, _, sum => (sum, true)
  | f + 1, at_, sum => if idx (depGe at_) P < 0 then (0, false) else wmGo P f (at_ + 1) (sum + ((P.getD (idx (depGe at_) P).toNat default).Depart - at_))
def wmRes (t : Timetable) (change from_ to : Int) (sp : Span) : Int × Bool :=
  if okPair t change from_ to = true ∧ okSpan sp = true then wmGo (profI t change from_ to) (sp.To - sp.From).toNat sp.From 0 else (0, false)
theorem wmRes_no {t : Timetable} {change from_ to : Int} {sp : Span} (h : ¬ (okPair t change from_ to = true ∧ okSpan sp = true)) : wmRes t change from_ to sp = (0, false) := if_neg h
theorem wmRes_yes {t : Timetable} {change from_ to : Int} {sp : Span} (h1 : okPair t change from_ to = true) (h2 : okSpan sp = true) : wmRes t change from_ to sp = wmGo (profI t change from_ to) (sp.To - sp.From).toNat sp.From 0 := if_pos ⟨h1, h2⟩
theorem impl_wait1 {w0 w : World} (c : Choice) (v : Int) {g : Nat} (hc : ∀ W [Later w0 W], W.cell? ⟨g, 0, none⟩ = some (.int .i64 v)) (hl : Later w0 w) :
    Calls Tryz.prog 26 #[.agg #[.int .i64 c.Depart, .int .i64 c.Arrive, .int .i64 c.Legs], .pointer (some ⟨g, 0, none⟩)] w (Ret (.bool (depGe v c)) w) := by
  have HB0 : ∀ W [Later (w.alloc (.cells #[.int .i64 c.Depart, .int .i64 c.Arrive, .int .i64 c.Legs] 56)) W] (j : Nat), W.cell? ⟨w.heap.size, j, none⟩ = #[.int .i64 c.Depart, .int .i64 c.Arrive, .int .i64 c.Legs][j]? := Later.boxes (t := 56) (fr := (0, 0)) (heap_new (by simp; try omega)); obtain ⟨wb, hwb⟩ : ∃ wb : World, wb = (w.alloc (.cells #[.int .i64 c.Depart, .int .i64 c.Arrive, .int .i64 c.Legs] 56)) := ⟨_, rfl⟩; haveI hbW : Later wb (w.alloc (.cells #[.int .i64 c.Depart, .int .i64 c.Arrive, .int .i64 c.Legs] 56)) := (by rw [hwb]; exact Later.rfl_); haveI hww : Later w wb := (by rw [hwb]; infer_instance); rw [← hwb] at HB0; have hbE := Lib.hid (congrArg (fun x : World => x.heap.size) hwb); clear hwb
  haveI hw0 : Later w0 wb := hl.trans hww
  have hd0 : ∀ W [Later wb W], W.cell? ⟨g, 0, none⟩ = some (.int .i64 v) := fun W hW => @hc W (hw0.trans hW)
  clear hc
  have HD : Hid (depGe v c = decide (v ≤ c.Depart)) := rfl
  rw [HD.out]
  go_enter Tryz.func26, Tryz.ntmps26
  go_wp2
  all_goals
    go_ret
    exact ⟨ret_bool (by simp [*]; try omega), by first | exact hww.trans inferInstance | infer_instance⟩
theorem slices_IndexWait {w0 w : World} {A : Option Addr} {n c : Nat} {l : List Choice} (h : Choices w0 A n c l) (hl : Later w0 w) (v : Int) {g : Nat} (hc : ∀ W [Later w W], W.cell? ⟨g, 0, none⟩ = some (.int .i64 v)) :
    Calls Tryz.prog 25 #[.slice A n c, .func (.func 26) #[] #[.pointer (some ⟨g, 0, none⟩)]] w (Ret (.int .i64 (idx (depGe v) l)) w) := by
  replace h := h.later hl
  have hn := h.le
  have Hl := Lib.hid h.len
  have HC : Hid (∀ W [Later w W], W.cell? ⟨g, 0, none⟩ = some (.int .i64 v)) := hc
  clear hc
  go_enter Tryz.func25, Tryz.ntmps25
  go_wp2
  go_loopw [8] (fun i wr => ∃ k : Nat, k ≤ n ∧ i = .int .i64 k ∧ Hid (idxGo (depGe v) (l.drop k) k = idx (depGe v) l) ∧ Later w wr) (fun i _ => n - (intOf i).toNat)
  case atStart => exact ⟨0, by omega, rfl, rfl, inferInstance⟩
  case round =>
    obtain ⟨k, hk, rfl, HF, hX⟩ := hrel
    by_cases hlt : k < n
    · obtain ⟨b, o, y, rfl, hy, hc0, hc1, hc2, hi⟩ := Choices.at_ h hlt
      have HF1 := HF.out
      rw [drop_at hy.out] at HF1
      simp only [idxGo] at HF1
      clear HF hi
      by_cases hxy : depGe v y = true
      · rw [if_pos hxy] at HF1
        have HF2 := Lib.hid HF1
        clear HF1
        go_wp2_with ((refine (impl_wait1 y v HC.out hX).mono ?_); rintro e w1 ⟨rfl, L1⟩; have X1 := hX.trans L1)
        go_ret
        exact ⟨ret_int HF2.out, inferInstance⟩
      · rw [if_neg hxy] at HF1
        have HF2 := Lib.hid HF1
        have hxz : depGe v y = false := by simpa using hxy
        clear HF1 hxy
        go_wp2_with ((refine (impl_wait1 y v HC.out hX).mono ?_); rintro e w1 ⟨rfl, L1⟩; have X1 := hX.trans L1)
        go_roundw
        case rel => exact ⟨k + 1, by omega, by go_num, HF2, inferInstance⟩
        case measure => simp [intOf]; omega
    · have HF2 : Hid (-1 = idx (depGe v) l) := by
        have h3 := HF.out
        rw [List.drop_eq_nil_of_le (by have := Hl.out; omega)] at h3
        exact h3
      clear HF
      go_wp2
      go_ret
      exact ⟨ret_int HF2.out, inferInstance⟩
set_option maxHeartbeats 8000000 in
theorem impl_WaitingMinutes {w0 w : World} {sA0 : Option Addr} {sn0 sc0 : Nat} {sA1 : Option Addr} {sn1 sc1 : Nat} {sA2 : Option Addr} {sn2 sc2 : Nat} {t : Timetable} (h : TimetableAt w0 sA0 sn0 sc0 sA1 sn1 sc1 sA2 sn2 sc2 t) (hl : Later w0 w) (change from_ to : Int) (sp : Span) : Calls Tryz.prog 9 #[.agg #[.slice sA0 sn0 sc0, .slice sA1 sn1 sc1, .slice sA2 sn2 sc2], .int .i64 change, .int .i64 from_, .int .i64 to, .agg #[.int .i64 sp.From, .int .i64 sp.To]] w (Ret (.tuple #[.int .i64 (wmRes t change from_ to sp).1, .bool (wmRes t change from_ to sp).2]) w) := by
  have HB0 : ∀ W [Later ((w.alloc (.cells #[.slice sA0 sn0 sc0, .slice sA1 sn1 sc1, .slice sA2 sn2 sc2] 39)).alloc (.cells #[.int .i64 sp.From, .int .i64 sp.To] 41)) W] (j : Nat), W.cell? ⟨w.heap.size, j, none⟩ = #[.slice sA0 sn0 sc0, .slice sA1 sn1 sc1, .slice sA2 sn2 sc2][j]? := Later.boxes (t := 39) (fr := (0, 0)) ((heap_old (by simp; try omega)).trans (heap_new (by simp; try omega))); have HB1 : ∀ W [Later ((w.alloc (.cells #[.slice sA0 sn0 sc0, .slice sA1 sn1 sc1, .slice sA2 sn2 sc2] 39)).alloc (.cells #[.int .i64 sp.From, .int .i64 sp.To] 41)) W] (j : Nat), W.cell? ⟨w.heap.size + 1, j, none⟩ = #[.int .i64 sp.From, .int .i64 sp.To][j]? := Later.boxes (t := 41) (fr := (0, 0)) (heap_new (by simp; try omega)); obtain ⟨wb, hwb⟩ : ∃ wb : World, wb = ((w.alloc (.cells #[.slice sA0 sn0 sc0, .slice sA1 sn1 sc1, .slice sA2 sn2 sc2] 39)).alloc (.cells #[.int .i64 sp.From, .int .i64 sp.To] 41)) := ⟨_, rfl⟩; haveI hbW : Later wb ((w.alloc (.cells #[.slice sA0 sn0 sc0, .slice sA1 sn1 sc1, .slice sA2 sn2 sc2] 39)).alloc (.cells #[.int .i64 sp.From, .int .i64 sp.To] 41)) := (by rw [hwb]; exact Later.rfl_); haveI hww : Later w wb := (by rw [hwb]; infer_instance); rw [← hwb] at HB0; rw [← hwb] at HB1; have hbE := Lib.hid (congrArg (fun x : World => x.heap.size) hwb); clear hwb
  have hwb0 := hl.trans hww
  have H := Lib.hid h
  clear h
  by_cases c0 : okPair t change from_ to = true
  rotate_left
  · have c1 : okPair t change from_ to = false := by simpa using c0
    have HRES := Lib.hid (wmRes_no (sp := sp) fun k => c0 k.1)
    rw [HRES.out]
    clear c0
    go_enter Tryz.func9, Tryz.ntmps9
    go_wp2_with (go_at_call 22; refine (impl_isPair H.out (hwb0.trans inferInstance) _ _ _).mono ?_; rintro e w1 ⟨rfl, L1⟩; have X1 := Later.trans (w := wb) inferInstance L1)
    go_ret2
    exact ⟨rfl, hww.trans inferInstance⟩
  by_cases b0 : okSpan sp = true
  rotate_left
  · have c1 : okSpan sp = false := by simpa using b0
    have HRES := Lib.hid (wmRes_no (t := t) (change := change) (from_ := from_) (to := to) fun k => b0 k.2)
    rw [HRES.out]
    clear b0
    go_enter Tryz.func9, Tryz.ntmps9
    go_wp2_with first
      | (go_at_call 22; refine (impl_isPair H.out (hwb0.trans inferInstance) _ _ _).mono ?_; rintro e w1 ⟨rfl, L1⟩; have X1 := Later.trans (w := wb) inferInstance L1)
      | (go_at_call 23; refine (impl_isSpan _ _).mono ?_; rintro e w2 ⟨rfl, L2⟩; have X2 := Later.trans (w := wb) inferInstance L2)
    go_ret2
    exact ⟨rfl, hww.trans inferInstance⟩
  have PF := Lib.hid (pairFacts c0)
  have HIN := Lib.hid (profI_in PF.out)
  have HLN := Lib.hid (profI_len t change from_ to)
  have HT12 := Lib.hid PF.out.time.len
  have HRES := Lib.hid (wmRes_yes c0 b0)
  have hsp : 0 ≤ sp.From ∧ sp.From ≤ sp.To ∧ sp.To ≤ 1799 := by
    have := b0
    simp only [okSpan, okTime, Bool.and_eq_true, inB_t, decide_eq_true_eq] at this
    omega
  have hsf := hsp.1
  have hst := hsp.2.1
  have hs9 := hsp.2.2
  obtain ⟨P, hP⟩ : ∃ P, profI t change from_ to = P := ⟨_, rfl⟩
  have HP := Lib.hid hP
  rw [hP] at HIN HLN HRES
  clear hP hsp
  go_enter Tryz.func9, Tryz.ntmps9
  go_wp2_with first
    | (go_at_call 22; refine (impl_isPair H.out (hwb0.trans inferInstance) _ _ _).mono ?_; rintro e w1 ⟨rfl, L1⟩; have X1 := Later.trans (w := wb) inferInstance L1)
    | (go_at_call 23; refine (impl_isSpan _ _).mono ?_; rintro e w2 ⟨rfl, L2⟩; have X2 := Later.trans (w := wb) inferInstance L2)
    | (go_at_call 24; refine (impl_travelProfile H.out (hwb0.trans inferInstance) _ _ _ PF.out).mono ?_; rw [HP.out]; rintro e w3 ⟨A3, n3, c3, fp3, rfl, ho3, hnd3, hlo3, L3⟩; have X3 := Later.trans (w := wb) inferInstance L3; have h3 : Choices w3 A3 n3 c3 P := ho3.reads; have H3 := Lib.hid h3; have HL3 := Lib.hid h3.len; have hn3 : n3 ≤ 48 := (by rw [h3.len]; have := HLN.out; have := HT12.out; omega); clear h3 ho3 hnd3 hlo3)
  go_loopw [13, 14] (fun sv pv wr => ∃ (j : Nat) (sum : Int) (g : Nat), sp.From + (j : Int) ≤ sp.To ∧ sv = .int .i64 sum ∧ pv = .pointer (some ⟨g, 0, none⟩) ∧ Hid (wmGo P (sp.To - (sp.From + (j : Int))).toNat (sp.From + (j : Int)) sum = wmGo P (sp.To - sp.From).toNat sp.From 0) ∧ 0 ≤ sum ∧ sum ≤ 2099 * (j : Int) ∧ Blk wr g 3 #[.int .i64 (sp.From + (j : Int))] ∧ w3.heap.size ≤ g ∧ Later wb wr ∧ Later w3 wr) (fun _ pv wr => (match pv with | .pointer (some a) => (sp.To - intOf ((wr.cell? a).getD undef)).toNat | _ => 0))
  case atStart => exact ⟨0, 0, _, by omega, rfl, rfl, by show _ = _; simp, by omega, by omega, by simpa using Blk.new w3 3 #[.int .i64 sp.From], Nat.le_refl _, inferInstance, inferInstance⟩
  case round =>
    obtain ⟨j, sum, g, hj, rfl, rfl, HF, hs0, hs1, hB, hg, hX, hX3⟩ := hrel
    obtain ⟨a, ha⟩ : ∃ a, sp.From + (j : Int) = a := ⟨_, rfl⟩
    rw [ha] at HF hB hj
    have HA := Lib.hid ha
    have ha0 : 0 ≤ a := by omega
    have ha1 : a ≤ 1799 := by omega
    have hj1 : (j : Int) ≤ 1799 := by omega
    have hcA : ∀ W [Later wr W], W.cell? ⟨g, 0, none⟩ = some (.int .i64 a) := fun W hW => ((hB.later hW).cell 0).trans rfl
    have hcA0 := (hB.cell 0).trans (show _ = some (.int .i64 a : Value) from rfl)
    by_cases hlt : a < sp.To
    · have HF1 := HF.out
      rw [show (sp.To - a).toNat = (sp.To - (a + 1)).toNat + 1 by omega] at HF1
      simp only [wmGo] at HF1
      obtain ⟨i, hi⟩ : ∃ i, idx (depGe a) P = i := ⟨_, rfl⟩
      have HI := Lib.hid hi
      rw [hi] at HF1
      clear HF
      by_cases hi0 : i < 0
      · rw [if_pos hi0] at HF1
        have HF2 := Lib.hid HF1
        clear HF1 hi ha
        go_wp2_with (go_at_call 25; refine (slices_IndexWait H3.out inferInstance a hcA).mono ?_; rw [HI.out]; rintro e w4 ⟨rfl, L4⟩; have X4 := Later.trans (w := wb) inferInstance L4)
        go_ret2
        exact ⟨by rw [HRES.out, ← HF2.out]; rfl, hww.trans inferInstance⟩
      · rw [if_neg hi0] at HF1
        obtain ⟨m, y, hy, hdy, hm⟩ := idx_at (p := depGe a) (l := P) (by rw [hi]; omega)
        rw [hi] at hm
        subst hm
        have hyd : a ≤ y.Depart := by simpa [depGe] using hdy
        have hin := HIN.out y (List.mem_of_getElem? hy)
        have hd1 := hin.d.2
        rw [show P.getD ((m : Int)).toNat default = y by simp [List.getD, hy]] at HF1
        have HF2 := Lib.hid HF1
        have hmn : m < n3 := by rw [HL3.out]; exact (List.getElem?_eq_some_iff.1 hy).1
        have hmt : (m : Int) < n3 := by omega
        obtain ⟨b, o, y', hA3, hy', hy0, _, _, _⟩ := Choices.at_ H3.out hmn
        obtain rfl : y' = y := Option.some.inj (hy'.out.symm.trans hy)
        subst hA3
        have hw1 : IntKind.i64.wrap (y'.Depart - a) = y'.Depart - a := by rw [IntKind.wrap_i64]; omega
        have hw2 : IntKind.i64.wrap (sum + (y'.Depart - a)) = sum + (y'.Depart - a) := by rw [IntKind.wrap_i64]; omega
        have hw3 : IntKind.i64.wrap (a + 1) = a + 1 := by rw [IntKind.wrap_i64]; omega
        have HAJ : Hid (sp.From + ((j + 1 : Nat) : Int) = a + 1) := by show _ = _; omega
        clear HF1 hi ha hy hdy hin hi0 hy'
        go_wp2_with (go_at_call 25; refine (slices_IndexWait H3.out inferInstance a hcA).mono ?_; rw [HI.out]; rintro e w4 ⟨rfl, L4⟩; have X4 := Later.trans (w := wb) inferInstance L4; have Y4 := Later.trans (w := w3) inferInstance L4; have R4 := Later.trans (w := wr) inferInstance L4)
        go_quiet (fail)
        obtain ⟨wd, hwd⟩ : ∃ wd : World, wd = w4.drewN nq := ⟨_, rfl⟩
        haveI d1 : Later wb wd := by rw [hwd]; infer_instance
        haveI d2 : Later w3 wd := by rw [hwd]; infer_instance
        haveI d3 : Later wr wd := by rw [hwd]; infer_instance
        rw [← hwd]
        clear hwd
        have hcN := ((Blk.new wd 3 #[.int .i64 (a + 1)]).cell 0).trans (show _ = some (.int .i64 (a + 1) : Value) from rfl)
        go_wp2
        go_roundw
        case rel => exact ⟨j + 1, sum + (y'.Depart - a), wd.heap.size, by have := HAJ.out; omega, rfl, rfl, by show _ = _; rw [HAJ.out]; exact HF2.out, by omega, by omega, by rw [HAJ.out]; exact Blk.new wd _ _, Later.size (w := w3) inferInstance, inferInstance, inferInstance⟩
        case measure => simp [intOf, hcA0, hcN]; omega
    · have HE : Hid (wmGo P (sp.To - sp.From).toNat sp.From 0 = (sum, true)) := by
        have h9 := HF.out
        rw [show (sp.To - a).toNat = 0 by omega] at h9
        exact h9.symm
      go_wp2
      go_ret2
      exact ⟨by rw [HRES.out, HE.out]; rfl, hww.trans inferInstance⟩
set_option maxHeartbeats 8000000 in
theorem spec_WaitingMinutes {w0 w : World} {sA0 : Option Addr} {sn0 sc0 : Nat} {sA1 : Option Addr} {sn1 sc1 : Nat} {sA2 : Option Addr} {sn2 sc2 : Nat} {t : Timetable} (h : TimetableAt w0 sA0 sn0 sc0 sA1 sn1 sc1 sA2 sn2 sc2 t) (hl : Later w0 w) (change from_ to : Int) (sp : Span) : Calls Tryz.prog 6 #[.agg #[.slice sA0 sn0 sc0, .slice sA1 sn1 sc1, .slice sA2 sn2 sc2], .int .i64 change, .int .i64 from_, .int .i64 to, .agg #[.int .i64 sp.From, .int .i64 sp.To]] w (Ret (.tuple #[.int .i64 (wmRes t change from_ to sp).1, .bool (wmRes t change from_ to sp).2]) w) := by
  have HB0 : ∀ W [Later ((w.alloc (.cells #[.slice sA0 sn0 sc0, .slice sA1 sn1 sc1, .slice sA2 sn2 sc2] 39)).alloc (.cells #[.int .i64 sp.From, .int .i64 sp.To] 41)) W] (j : Nat), W.cell? ⟨w.heap.size, j, none⟩ = #[.slice sA0 sn0 sc0, .slice sA1 sn1 sc1, .slice sA2 sn2 sc2][j]? := Later.boxes (t := 39) (fr := (0, 0)) ((heap_old (by simp; try omega)).trans (heap_new (by simp; try omega))); have HB1 : ∀ W [Later ((w.alloc (.cells #[.slice sA0 sn0 sc0, .slice sA1 sn1 sc1, .slice sA2 sn2 sc2] 39)).alloc (.cells #[.int .i64 sp.From, .int .i64 sp.To] 41)) W] (j : Nat), W.cell? ⟨w.heap.size + 1, j, none⟩ = #[.int .i64 sp.From, .int .i64 sp.To][j]? := Later.boxes (t := 41) (fr := (0, 0)) (heap_new (by simp; try omega)); obtain ⟨wb, hwb⟩ : ∃ wb : World, wb = ((w.alloc (.cells #[.slice sA0 sn0 sc0, .slice sA1 sn1 sc1, .slice sA2 sn2 sc2] 39)).alloc (.cells #[.int .i64 sp.From, .int .i64 sp.To] 41)) := ⟨_, rfl⟩; haveI hbW : Later wb ((w.alloc (.cells #[.slice sA0 sn0 sc0, .slice sA1 sn1 sc1, .slice sA2 sn2 sc2] 39)).alloc (.cells #[.int .i64 sp.From, .int .i64 sp.To] 41)) := (by rw [hwb]; exact Later.rfl_); haveI hww : Later w wb := (by rw [hwb]; infer_instance); rw [← hwb] at HB0; rw [← hwb] at HB1; have hbE := Lib.hid (congrArg (fun x : World => x.heap.size) hwb); clear hwb
  have hwb0 := hl.trans hww
  have H := Lib.hid h
  clear h
  by_cases c0 : okPair t change from_ to = true
  rotate_left
  · have c1 : okPair t change from_ to = false := by simpa using c0
    have HPR := Lib.hid (show profRes t change from_ to = ([], false) from if_neg c0)
    have HRES := Lib.hid (wmRes_no (sp := sp) fun k => c0 k.1)
    rw [HRES.out]
    clear c0
    go_enter Tryz.func6, Tryz.ntmps6
    go_wp2_with (go_at_call 11; refine (spec_TravelProfile H.out (hwb0.trans inferInstance) _ _ _).mono ?_; rw [HPR.out]; rintro e w3 ⟨A3, n3, c3, fp3, rfl, ho3, hnd3, hlo3, L3⟩; have X3 := Later.trans (w := wb) inferInstance L3; have h3 : Choices w3 A3 n3 c3 _ := ho3.reads; have H3 := Lib.hid h3; have HL3 := Lib.hid h3.len; clear h3 ho3 hnd3 hlo3)
    go_ret2
    exact ⟨rfl, hww.trans inferInstance⟩
  have HPR := Lib.hid (show profRes t change from_ to = (profI t change from_ to, true) from if_pos c0)
  by_cases b0 : okSpan sp = true
  rotate_left
  · have c1 : okSpan sp = false := by simpa using b0
    have HRES := Lib.hid (wmRes_no (t := t) (change := change) (from_ := from_) (to := to) fun k => b0 k.2)
    rw [HRES.out]
    clear b0
    go_enter Tryz.func6, Tryz.ntmps6
    go_wp2_with first
      | (go_at_call 11; refine (spec_TravelProfile H.out (hwb0.trans inferInstance) _ _ _).mono ?_; rw [HPR.out]; rintro e w3 ⟨A3, n3, c3, fp3, rfl, ho3, hnd3, hlo3, L3⟩; have X3 := Later.trans (w := wb) inferInstance L3; have h3 : Choices w3 A3 n3 c3 _ := ho3.reads; have H3 := Lib.hid h3; have HL3 := Lib.hid h3.len; clear h3 ho3 hnd3 hlo3)
      | (go_at_call 19; refine (spec_l4Span _ _).mono ?_; rintro e w2 ⟨rfl, L2⟩; have X2 := Later.trans (w := wb) inferInstance L2; have U2 := Later.trans (w := w3) inferInstance L2)
    go_ret2
    exact ⟨rfl, hww.trans inferInstance⟩
  have PF := Lib.hid (pairFacts c0)
  have HIN := Lib.hid (profI_in PF.out)
  have HLN := Lib.hid (profI_len t change from_ to)
  have HT12 := Lib.hid PF.out.time.len
  have HRES := Lib.hid (wmRes_yes c0 b0)
  have hsp : 0 ≤ sp.From ∧ sp.From ≤ sp.To ∧ sp.To ≤ 1799 := by
    have := b0
    simp only [okSpan, okTime, Bool.and_eq_true, inB_t, decide_eq_true_eq] at this
    omega
  have hsf := hsp.1
  have hst := hsp.2.1
  have hs9 := hsp.2.2
  obtain ⟨P, hP⟩ : ∃ P, profI t change from_ to = P := ⟨_, rfl⟩
  rw [hP] at HIN HLN HRES HPR
  clear hP hsp
  go_enter Tryz.func6, Tryz.ntmps6
  go_wp2_with first
    | (go_at_call 11; refine (spec_TravelProfile H.out (hwb0.trans inferInstance) _ _ _).mono ?_; rw [HPR.out]; rintro e w3 ⟨A3, n3, c3, fp3, rfl, ho3, hnd3, hlo3, L3⟩; have X3 := Later.trans (w := wb) inferInstance L3; have h3 : Choices w3 A3 n3 c3 _ := ho3.reads; have H3 := Lib.hid h3; have HL3 := Lib.hid h3.len; clear h3 ho3 hnd3 hlo3)
    | (go_at_call 19; refine (spec_l4Span _ _).mono ?_; rintro e w2 ⟨rfl, L2⟩; have X2 := Later.trans (w := wb) inferInstance L2; have U2 := Later.trans (w := w3) inferInstance L2)
  have hn3 : n3 ≤ 48 := by rw [HL3.out]; have := HLN.out; have := HT12.out; omega
  go_loopw [14, 15] (fun sv av wr => ∃ (j : Nat) (sum : Int), sp.From + (j : Int) ≤ sp.To ∧ sv = .int .i64 sum ∧ av = .int .i64 (sp.From + (j : Int)) ∧ Hid (wmGo P (sp.To - (sp.From + (j : Int))).toNat (sp.From + (j : Int)) sum = wmGo P (sp.To - sp.From).toNat sp.From 0) ∧ 0 ≤ sum ∧ sum ≤ 2099 * (j : Int) ∧ Later wb wr ∧ Later w3 wr) (fun _ av _ => (sp.To - intOf av).toNat)
  case atStart => exact ⟨0, 0, by omega, rfl, by simp, by show _ = _; simp, by omega, by omega, inferInstance, inferInstance⟩
  case round =>
    obtain ⟨j, sum, hj, rfl, rfl, HF, hs0, hs1, hX, hX3⟩ := hrel
    obtain ⟨a, ha⟩ : ∃ a, sp.From + (j : Int) = a := ⟨_, rfl⟩
    rw [ha] at HF hj ⊢
    have ha0 : 0 ≤ a := by omega
    have ha1 : a ≤ 1799 := by omega
    have hj1 : (j : Int) ≤ 1799 := by omega
    have HAJ : Hid (sp.From + ((j + 1 : Nat) : Int) = a + 1) := by show _ = _; omega
    clear ha
    by_cases hlt : a < sp.To
    · have HF1 := HF.out
      rw [show (sp.To - a).toNat = (sp.To - (a + 1)).toNat + 1 by omega] at HF1
      simp only [wmGo] at HF1
      obtain ⟨i, hi⟩ : ∃ i, idx (depGe a) P = i := ⟨_, rfl⟩
      rw [hi] at HF1
      have HF2 := Lib.hid HF1
      have HI := Lib.hid hi
      clear HF HF1 hi
      go_wp2_with fail
      go_loopw [16, 17] (fun nv iv wr => ∃ (k : Nat) (nx : Int), k ≤ n3 ∧ iv = .int .i64 k ∧ nv = .int .i64 nx ∧ Hid ((nx = -1 ∧ idxGo (depGe a) (P.drop k) k = i) ∨ (a ≤ nx ∧ nx ≤ 2099 ∧ ∃ (m : Nat) (y : Choice), i = m ∧ P[m]? = some y ∧ y.Depart = nx)) ∧ Later wb wr ∧ Later w3 wr) (fun nv iv _ => (n3 - (intOf iv).toNat))
      case atStart => exact ⟨0, -1, by omega, rfl, rfl, .inl ⟨rfl, HI.out⟩, inferInstance, inferInstance⟩
      case round =>
        obtain ⟨k, nx, hk, rfl, rfl, HN, hX, hX3⟩ := hrel
        rcases HN.out with ⟨rfl, hg⟩ | ⟨hnx, hn9, m, y, hm, hy, hd⟩
        · by_cases hkn : k < n3
          · obtain ⟨b, o, y, hA3, hy, hy0, _, _, _⟩ := Choices.at_ H3.out hkn
            have hg1 := hg
            rw [drop_at hy.out] at hg1
            simp only [idxGo] at hg1
            have hdy := (HIN.out y (List.mem_of_getElem? hy.out)).d
            have hkt : (k : Int) < n3 := by omega
            subst hA3
            by_cases hxy : a ≤ y.Depart
            · rw [if_pos (by simpa [depGe] using hxy)] at hg1
              have HN2 : Hid ((y.Depart = -1 ∧ idxGo (depGe a) (P.drop (k + 1)) (k + 1) = i) ∨ (a ≤ y.Depart ∧ y.Depart ≤ 2099 ∧ ∃ (m : Nat) (y' : Choice), i = m ∧ P[m]? = some y' ∧ y'.Depart = y.Depart)) := .inr ⟨hxy, hdy.2, k, y, hg1.symm, hy.out, rfl⟩
              clear HN hg hg1 hy hdy
              go_wp2
              go_roundw
              case rel => exact ⟨k + 1, y.Depart, by omega, by go_num, rfl, HN2, inferInstance, inferInstance⟩
              case measure => simp [intOf]; omega
            · rw [if_neg (by simpa [depGe] using hxy)] at hg1
              have HN2 : Hid (((-1 : Int) = -1 ∧ idxGo (depGe a) (P.drop (k + 1)) (k + 1) = i) ∨ (a ≤ (-1 : Int) ∧ (-1 : Int) ≤ 2099 ∧ ∃ (m : Nat) (y' : Choice), i = m ∧ P[m]? = some y' ∧ y'.Depart = -1)) := .inl ⟨rfl, hg1⟩
              clear HN hg hg1 hy hdy
              go_wp2
              go_roundw
              case rel => exact ⟨k + 1, -1, by omega, by go_num, rfl, HN2, inferInstance, inferInstance⟩
              case measure => simp [intOf]; omega
          · have hi9 : i = -1 := by
              rw [List.drop_eq_nil_of_le (by have := HL3.out; omega)] at hg
              exact hg.symm
            have HRE : Hid (wmGo P (sp.To - sp.From).toNat sp.From 0 = (0, false)) := by
              show _ = _
              rw [← HF2.out, if_pos (by omega)]
            have hkt : ¬ (k : Int) < n3 := by omega
            clear HN hg hi9
            go_wp2
            go_ret2
            exact ⟨by rw [HRES.out, HRE.out]; rfl, hww.trans inferInstance⟩
        · have HRE : Hid (wmGo P (sp.To - (a + 1)).toNat (a + 1) (sum + (nx - a)) = wmGo P (sp.To - sp.From).toNat sp.From 0) := by
            show _ = _
            rw [← HF2.out, if_neg (by omega), hm, show P.getD ((m : Int)).toNat default = y by simp [List.getD, hy], hd]
          have hn0 : ¬ nx < 0 := by omega
          have hw1 : IntKind.i64.wrap (sum + nx) = sum + nx := by rw [IntKind.wrap_i64]; omega
          have hw2 : IntKind.i64.wrap (sum + nx - a) = sum + nx - a := by rw [IntKind.wrap_i64]; omega
          have hw3 : IntKind.i64.wrap (a + 1) = a + 1 := by rw [IntKind.wrap_i64]; omega
          clear HN hm hy hd
          by_cases hkn : k < n3
          · have hkt : (k : Int) < n3 := by omega
            go_wp2
            go_roundw
            case rel => exact ⟨j + 1, sum + nx - a, by have := HAJ.out; omega, rfl, by rw [HAJ.out], by show _ = _; rw [HAJ.out, show sum + nx - a = sum + (nx - a) by omega]; exact HRE.out, by omega, by omega, inferInstance, inferInstance⟩
            case measure => simp [intOf]; omega
          · have hkt : ¬ (k : Int) < n3 := by omega
            go_wp2
            go_roundw
            case rel => exact ⟨j + 1, sum + nx - a, by have := HAJ.out; omega, rfl, by rw [HAJ.out], by show _ = _; rw [HAJ.out, show sum + nx - a = sum + (nx - a) by omega]; exact HRE.out, by omega, by omega, inferInstance, inferInstance⟩
            case measure => simp [intOf]; omega
    · have HE : Hid (wmGo P (sp.To - sp.From).toNat sp.From 0 = (sum, true)) := by
        have h9 := HF.out
        rw [show (sp.To - a).toNat = 0 by omega] at h9
        exact h9.symm
      go_wp2
      go_ret2
      exact ⟨by rw [HRES.out, HE.out]; rfl, hww.trans inferInstance⟩
end Go.Proofs.YtbkeccpjcmhhjaaGreat
