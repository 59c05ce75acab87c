/-
  Headways: the rest of a pattern at a stop.
-/
import Derived.Test.YtaopadffabbjiaaHeadP
import Derived.Test.YtaopadffabbjiaaHead
import Derived.Test.YtaopadffabbjiaaTime
namespace Go.Proofs.Ytaopadffabbjiaa
open Go Go.RowKit
set_option linter.unusedVariables false
set_option maxRecDepth 100000
theorem Sl.take_ {α : Type} {sz : Nat} {r : Rep α} {w : World} {A : Option Addr} {n c : Nat} {l : List α} (h : Sl sz r w A n c l) {k : Nat} (hk : k ≤ n) : Sl sz r w A k c (l.take k) :=
  ⟨by rw [List.length_take, ← h.len]; omega, Nat.le_trans hk h.cap, h.max, fun j x hx => h.el j x (by
    rw [List.getElem?_take] at hx
    split at hx
    · exact hx
    · cases hx)⟩
theorem tmod_pos {a b : Int} (h : 0 ≤ a) : a.tmod b = a % b := Int.tmod_eq_emod_of_nonneg h
set_option maxHeartbeats 400000 in
theorem impl_restAt {w0 w : World} {sA0 : Option Addr} {sn0 sc0 : Nat} {sA1 : Option Addr} {sn1 sc1 : Nat} {n : Network} (h : NetworkAt w0 sA0 sn0 sc0 sA1 sn1 sc1 n) (hl : Later w0 w) (nf : NetFacts n) (period : Int) (hp1 : 1 ≤ period) (hp2 : period ≤ 60) (p : Pattern) (p0 : 0 ≤ p.Line) (p1 : p.Line < n.Lines.length) (p2 : 0 ≤ p.Offset) (p3 : p.Offset < period) (stop : Int) :
    Calls Try.prog 121 #[.agg #[.slice sA0 sn0 sc0, .slice sA1 sn1 sc1], .int .i64 period, .agg #[.int .i64 p.Line, .int .i64 p.Offset], .int .i64 stop] w (Ret (.int .i64 (restOf n period p stop)) w) := by
  have hP := h.l_Lines
  have hwl0 := hl
  obtain ⟨ln, of⟩ := p
  simp only at p0 p1 p2 p3
  obtain ⟨m, rfl⟩ := Int.eq_ofNat_of_zero_le p0
  have hm : m < sn1 := by rw [hP.len]; omega
  have hm5 : sn1 ≤ 9223372036854775807 := hP.le
  clear p0 p1
  obtain ⟨b, o, xA0, xn0, xc0, xA1, xn1, xc1, y, rfl, hy, hc0, hc1, hc2, hi⟩ := Lines.at_ hP hm
  have HB0 : ∀ W [Later ((w.alloc (.cells #[.slice sA0 sn0 sc0, .slice (some ⟨b, o, none⟩) sn1 sc1] 38)).alloc (.cells #[.int .i64 (m:Int), .int .i64 of] 122)) W] (j : Nat), W.cell? ⟨w.heap.size, j, none⟩ = #[.slice sA0 sn0 sc0, .slice (some ⟨b, o, none⟩) sn1 sc1][j]? := Later.boxes (t := 38) (fr := (0, 0)) ((heap_old (by simp; try omega)).trans (heap_new (by simp; try omega))); have HB1 : ∀ W [Later ((w.alloc (.cells #[.slice sA0 sn0 sc0, .slice (some ⟨b, o, none⟩) sn1 sc1] 38)).alloc (.cells #[.int .i64 (m:Int), .int .i64 of] 122)) W] (j : Nat), W.cell? ⟨w.heap.size + 1, j, none⟩ = #[.int .i64 (m:Int), .int .i64 of][j]? := Later.boxes (t := 122) (fr := (0, 0)) (heap_new (by simp; try omega)); obtain ⟨wb, hwb⟩ : ∃ wb : World, wb = ((w.alloc (.cells #[.slice sA0 sn0 sc0, .slice (some ⟨b, o, none⟩) sn1 sc1] 38)).alloc (.cells #[.int .i64 (m:Int), .int .i64 of] 122)) := ⟨_, rfl⟩; haveI hbW : Later wb ((w.alloc (.cells #[.slice sA0 sn0 sc0, .slice (some ⟨b, o, none⟩) sn1 sc1] 38)).alloc (.cells #[.int .i64 (m:Int), .int .i64 of] 122)) := (by rw [hwb]; exact Later.rfl_); haveI hww : Later w wb := (by rw [hwb]; infer_instance); rw [← hwb] at HB0; rw [← hwb] at HB1; have hbE := Lib.hid (congrArg (fun x : World => x.heap.size) hwb); clear hwb
  have hwb0 := hl.trans hww
  replace hc0 := shift hwb0 hc0
  replace hc1 := shift hwb0 hc1
  replace hc2 := shift hwb0 hc2
  replace hi := hi.later hwb0
  have lf := nf.line m y hy.out
  have hly : lineN n m = y := lineN_of hy.out
  have hS := hi.l_Stops
  have hR := hi.l_Runs
  have hpb := placeIn_bd lf stop
  have hRn : xn1 ≤ 5 := by rw [hR.len]; have := lf.runs; have := lf.stops; omega
  have hxc := hR.cap
  have hxm := hR.max
  have HRun := Lib.hid lf.run
  have HRl : Hid (xn1 = y.Runs.length) := hR.len
  obtain ⟨wx, hwx⟩ : ∃ wx : World, wx = ((w.alloc (.cells #[.slice sA0 sn0 sc0, .slice (some ⟨b, o, none⟩) sn1 sc1] 38)).alloc (.cells #[.int .i64 (m:Int), .int .i64 of] 122)).alloc (.cells #[.string y.Name, .slice xA0 xn0 xc0, .slice xA1 xn1 xc1] 109) := ⟨_, rfl⟩
  have HBX : ∀ W [Later wx W] (j : Nat), W.cell? ⟨w.heap.size + 1 + 1, j, none⟩ = #[.string y.Name, .slice xA0 xn0 xc0, .slice xA1 xn1 xc1][j]? := by rw [hwx]; exact Later.boxes (t := 109) (fr := (0, 0)) (heap_new (by simp))
  haveI hxW : Later wx (((w.alloc (.cells #[.slice sA0 sn0 sc0, .slice (some ⟨b, o, none⟩) sn1 sc1] 38)).alloc (.cells #[.int .i64 (m:Int), .int .i64 of] 122)).alloc (.cells #[.string y.Name, .slice xA0 xn0 xc0, .slice xA1 xn1 xc1] 109)) := by rw [hwx]; exact Later.rfl_
  haveI hbx : Later wb wx := by rw [hwx]; infer_instance
  clear hwx
  by_cases hk : placeIn y stop < 0
  · have HN : Hid (restOf n period ⟨m, of⟩ stop = -1) := restOf_neg (by rw [hly]; exact hk)
    have hS' := Lib.hid hS
    unfold placeIn at hk
    clear lf hi hy hly hpb hS hR
    go_enter Try.func121, Try.ntmps121
    go_wp2_with (go_at_call 104; refine (slices_IndexInt hS'.out inferInstance _).mono ?_; rintro e w1 ⟨rfl, L1⟩; have X1 := Later.trans (w := wb) inferInstance L1; have Z1 := Later.trans (w := wx) inferInstance L1)
    go_ret
    exact ⟨ret_int HN.out.symm, hww.trans inferInstance⟩
  · obtain ⟨k, hkk⟩ := Int.eq_ofNat_of_zero_le (show 0 ≤ placeIn y stop by omega)
    have hk1 : k ≤ xn1 := by rw [HRl.out]; omega
    have HN : Hid (restOf n period ⟨m, of⟩ stop = (of + runSum y k) % period) := by
      show _ = _
      rw [restOf_pos (by rw [hly]; exact hk), hly, hkk]; rfl
    have hrb := runSum_bd lf k
    have hr0 := hrb.1
    have hr1 := hrb.2
    have hS' := Lib.hid hS
    have hT := Lib.hid (hR.take_ hk1)
    have HKK : Hid (idx (intIs stop) y.Stops = (k : Int)) := hkk
    have k0 : (0 : Int) ≤ (k : Int) := by omega
    have kc : (k : Int) ≤ (xc1 : Int) := by omega
    have hpz : ¬ period = 0 := by omega
    have hsum : sumI (List.take k y.Runs) = runSum y k := rfl
    have HSUM := Lib.hid hsum
    clear lf hi hy hly hpb hS hR hk hkk hrb hsum
    go_enter Try.func121, Try.ntmps121
    go_wp2_with (go_at_call 104; refine (slices_IndexInt hS'.out inferInstance _).mono ?_; rw [HKK.out]; rintro e w1 ⟨rfl, L1⟩; have X1 := Later.trans (w := wb) inferInstance L1; have Z1 := Later.trans (w := wx) inferInstance L1)
    have hwr : IntKind.i64.wrap (of + runSum y k) = of + runSum y k := by rw [IntKind.wrap_i64]; omega
    have htm : (of + runSum y k).tmod period = (of + runSum y k) % period := tmod_pos (by omega)
    go_region_held3 (fun w' => Later wb w' ∧ Later wx w') (exact ⟨inferInstance, inferInstance⟩) ((go_at_call 142; refine (impl_total hT.out inferInstance (fun r hr => by have := HRun.out r (List.mem_of_mem_take hr); omega) (by omega)).mono ?_; rw [HSUM.out]; rintro e w2 ⟨rfl, L2⟩; have X2 := Later.trans (w := wb) inferInstance L2; have Z2 := Later.trans (w := wx) inferInstance L2))
    clear hwr
    go_wp2
    go_ret
    exact ⟨ret_int HN.out.symm, hww.trans inferInstance⟩
set_option maxHeartbeats 400000 in
theorem spec_l10Rest {w0 w : World} {sA0 : Option Addr} {sn0 sc0 : Nat} {sA1 : Option Addr} {sn1 sc1 : Nat} {n : Network} (h : NetworkAt w0 sA0 sn0 sc0 sA1 sn1 sc1 n) (hl : Later w0 w) (nf : NetFacts n) (period : Int) (hp1 : 1 ≤ period) (hp2 : period ≤ 60) (p : Pattern) (p0 : 0 ≤ p.Line) (p1 : p.Line < n.Lines.length) (p2 : 0 ≤ p.Offset) (p3 : p.Offset < period) (stop : Int) :
    Calls Try.prog 118 #[.agg #[.slice sA0 sn0 sc0, .slice sA1 sn1 sc1], .int .i64 period, .agg #[.int .i64 p.Line, .int .i64 p.Offset], .int .i64 stop] w (Ret (.int .i64 (restOf n period p stop)) w) := by
  have hP := h.l_Lines
  have hwl0 := hl
  obtain ⟨ln, of⟩ := p
  simp only at p0 p1 p2 p3
  obtain ⟨m, rfl⟩ := Int.eq_ofNat_of_zero_le p0
  have hm : m < sn1 := by rw [hP.len]; omega
  have hm5 : sn1 ≤ 9223372036854775807 := hP.le
  clear p0 p1
  obtain ⟨b, o, xA0, xn0, xc0, xA1, xn1, xc1, y, rfl, hy, hc0, hc1, hc2, hi⟩ := Lines.at_ hP hm
  have HB0 : ∀ W [Later ((w.alloc (.cells #[.slice sA0 sn0 sc0, .slice (some ⟨b, o, none⟩) sn1 sc1] 38)).alloc (.cells #[.int .i64 (m:Int), .int .i64 of] 122)) W] (j : Nat), W.cell? ⟨w.heap.size, j, none⟩ = #[.slice sA0 sn0 sc0, .slice (some ⟨b, o, none⟩) sn1 sc1][j]? := Later.boxes (t := 38) (fr := (0, 0)) ((heap_old (by simp; try omega)).trans (heap_new (by simp; try omega))); have HB1 : ∀ W [Later ((w.alloc (.cells #[.slice sA0 sn0 sc0, .slice (some ⟨b, o, none⟩) sn1 sc1] 38)).alloc (.cells #[.int .i64 (m:Int), .int .i64 of] 122)) W] (j : Nat), W.cell? ⟨w.heap.size + 1, j, none⟩ = #[.int .i64 (m:Int), .int .i64 of][j]? := Later.boxes (t := 122) (fr := (0, 0)) (heap_new (by simp; try omega)); obtain ⟨wb, hwb⟩ : ∃ wb : World, wb = ((w.alloc (.cells #[.slice sA0 sn0 sc0, .slice (some ⟨b, o, none⟩) sn1 sc1] 38)).alloc (.cells #[.int .i64 (m:Int), .int .i64 of] 122)) := ⟨_, rfl⟩; haveI hbW : Later wb ((w.alloc (.cells #[.slice sA0 sn0 sc0, .slice (some ⟨b, o, none⟩) sn1 sc1] 38)).alloc (.cells #[.int .i64 (m:Int), .int .i64 of] 122)) := (by rw [hwb]; exact Later.rfl_); haveI hww : Later w wb := (by rw [hwb]; infer_instance); rw [← hwb] at HB0; rw [← hwb] at HB1; have hbE := Lib.hid (congrArg (fun x : World => x.heap.size) hwb); clear hwb
  have hwb0 := hl.trans hww
  replace hc0 := shift hwb0 hc0
  replace hc1 := shift hwb0 hc1
  replace hc2 := shift hwb0 hc2
  replace hi := hi.later hwb0
  have lf := nf.line m y hy.out
  have hly : lineN n m = y := lineN_of hy.out
  have hS := hi.l_Stops
  have hR := hi.l_Runs
  have hpb := placeIn_bd lf stop
  have hRn : xn1 ≤ 5 := by rw [hR.len]; have := lf.runs; have := lf.stops; omega
  have hxc := hR.cap
  have hxm := hR.max
  have HRun := Lib.hid lf.run
  have HRl : Hid (xn1 = y.Runs.length) := hR.len
  have Hi := Lib.hid hi
  by_cases hk : placeIn y stop < 0
  · have HN : Hid (restOf n period ⟨m, of⟩ stop = -1) := restOf_neg (by rw [hly]; exact hk)
    unfold placeIn at hk
    clear lf hi hy hly hpb hS hR
    go_enter Try.func118, Try.ntmps118
    go_wp2_with (go_at_call 141; refine (spec_l2Place Hi.out inferInstance _).mono ?_; rintro e w1 ⟨rfl, L1⟩; have X1 := Later.trans (w := wb) inferInstance L1)
    go_ret
    exact ⟨ret_int HN.out.symm, hww.trans inferInstance⟩
  · obtain ⟨k, hkk⟩ := Int.eq_ofNat_of_zero_le (show 0 ≤ placeIn y stop by omega)
    have hk1 : k ≤ xn1 := by rw [HRl.out]; omega
    have HN : Hid (restOf n period ⟨m, of⟩ stop = (of + runSum y k) % period) := by
      show _ = _
      rw [restOf_pos (by rw [hly]; exact hk), hly, hkk]; rfl
    have hrb := runSum_bd lf k
    have hr0 := hrb.1
    have hr1 := hrb.2
    have HKK : Hid (idx (intIs stop) y.Stops = (k : Int)) := hkk
    have k0 : (0 : Int) ≤ (k : Int) := by omega
    have hpz : ¬ period = 0 := by omega
    clear lf hi hy hly hpb hS hR hk hkk hrb
    go_enter Try.func118, Try.ntmps118
    go_wp2_with (go_at_call 141; refine (spec_l2Place Hi.out inferInstance _).mono ?_; rw [HKK.out]; rintro e w1 ⟨rfl, L1⟩; have X1 := Later.trans (w := wb) inferInstance L1)
    have hwr : IntKind.i64.wrap (of + runSum y k) = of + runSum y k := by rw [IntKind.wrap_i64]; omega
    have htm : (of + runSum y k).tmod period = (of + runSum y k) % period := tmod_pos (by omega)
    go_region_held3 (fun w' => Later wb w') (exact inferInstance) ((go_at_call 109; refine (spec_l2Run Hi.out inferInstance HRun.out _ k0 (by have := HRl.out; omega) (by omega)).mono ?_; rw [Int.toNat_natCast]; rintro e w2 ⟨rfl, L2⟩; have X2 := Later.trans (w := wb) inferInstance L2))
    clear hwr
    go_wp2
    go_ret
    exact ⟨ret_int HN.out.symm, hww.trans inferInstance⟩
end Go.Proofs.Ytaopadffabbjiaa
