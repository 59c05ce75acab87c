/-
  Rosters: the shifts that nobody drives on a day.
-/
import Derived.Test.YthoappgpkelakaaRostE
import Derived.Test.YthoappgpkelakaaPure
import Derived.Deep.RegionHeld3
namespace Go.Proofs.Ythoappgpkelakaa
open Go Go.RowKit
set_option linter.unusedVariables false
set_option maxRecDepth 100000
def hasP (d : Nat) (v : Int) (x : List Int) : Bool := decide (x.getD d 0 = v)
def missK (r : Roster) (d : Nat) : Nat → List Int
  | 0 => []
  | k + 1 => if r.Plan.any (hasP d k) then missK r d k else missK r d k ++ [(k : Int)]
def missOf (r : Roster) (d : Nat) : List Int := missK r d r.Shifts.length
theorem missK_bd (r : Roster) (d k : Nat) : (∀ y, y ∈ missK r d k → 0 ≤ y ∧ y < k) ∧ (missK r d k).length ≤ k := by
  induction k with
  | zero => simp [missK]
  | succ k ih =>
    obtain ⟨h1, h2⟩ := ih
    simp only [missK]
    split
    · exact ⟨fun y hy => by have := h1 y hy; omega, by omega⟩
    · refine ⟨fun y hy => ?_, by simp; omega⟩
      rcases List.mem_append.1 hy with hy | hy
      · have := h1 y hy; omega
      · simp at hy; omega
theorem hasP_t {d : Nat} {v s : Int} {x : List Int} (h : x[d]? = some s) (e : s = v) : hasP d v x = true := by simp [hasP, List.getD, h, e]
theorem hasP_f {d : Nat} {v s : Int} {x : List Int} (h : x[d]? = some s) (e : ¬ s = v) : hasP d v x = false := by simp [hasP, List.getD, h, e]
theorem shift' {P : World → Prop} {a b : World} (h : Later a b) (hp : ∀ W [Later a W], P W) : ∀ W [Later b W], P W := fun W hW => @hp W (h.trans hW)
theorem ownsRow_later' {w W : World} {base : Nat} {e : TypeId} {sz : Nat} {v : Value} {n : Nat} {xs : List Value} (h : w.ownsRow base e sz v n xs) (hl : Later w W) : W.ownsRow base e sz v n xs := by
  obtain ⟨hxs, h2⟩ := h
  refine ⟨hxs, ?_⟩
  rcases h2 with h2 | ⟨g, cap, cur, h1, hb, hg, h3⟩
  · exact .inl h2
  · exact .inr ⟨g, cap, cur, h1, hb, (show Blk W g e cur from Blk.later (show Blk w g e cur from hg) hl), h3⟩
theorem impl_isRosterDay {w0 w : World} {sA0 : Option Addr} {sn0 sc0 : Nat} {sA1 : Option Addr} {sn1 sc1 : Nat} {r : Roster} (h : RosterAt w0 sA0 sn0 sc0 sA1 sn1 sc1 r) (hl : Later w0 w) (ok : RosterFacts r) (d : Int) :
    Calls Try.prog 65 #[.agg #[.slice sA0 sn0 sc0, .int .i64 r.Rules.MinRest, .int .i64 r.Rules.MaxRow, .int .i64 r.Rules.MaxWeek, .slice sA1 sn1 sc1], .int .i64 d] w (Ret (.bool (inB d 0 ((days r : Int) - 1))) w) := by
  replace h := h.later hl
  have hP := h.l_Plan
  have hm := hP.le
  have h0n : 0 < sn1 := by rw [hP.len]; have := ok.plan.1; omega
  obtain ⟨b, o, A1, n1, c1, x, rfl, hx, hc0, hi⟩ := Sl.row_ hP h0n
  have hn1 := hi.le
  have hxl := (ok.row 0 x hx.out).1
  have hxd : Hid (n1 = days r) := by show _ = _; rw [hi.len, hxl]; rfl
  simp only [Nat.add_zero] at hc0
  clear hi hxl hx
  have HB0 : ∀ W [Later (w.alloc (.cells #[.slice sA0 sn0 sc0, .int .i64 r.Rules.MinRest, .int .i64 r.Rules.MaxRow, .int .i64 r.Rules.MaxWeek, .slice (some ⟨b, o, none⟩) sn1 sc1] 45)) W] (j : Nat), W.cell? ⟨w.heap.size, j, none⟩ = #[.slice sA0 sn0 sc0, .int .i64 r.Rules.MinRest, .int .i64 r.Rules.MaxRow, .int .i64 r.Rules.MaxWeek, .slice (some ⟨b, o, none⟩) sn1 sc1][j]? := Later.boxes (t := 45) (fr := (0, 0)) (heap_new (by simp; try omega))
  go_enter Try.func65, Try.ntmps65
  go_wp2
  all_goals
    go_ret
    exact ⟨ret_bool (by rw [← hxd.out]; unfold inB; rw [Bool.eq_iff_iff]; simp; try omega), inferInstance⟩
theorem impl_missing1 {w0 w : World} {A : Option Addr} {n c : Nat} {x : List Int} (h : Ints w0 A n c x) (hl : Later w0 w) {d : Nat} (hd : d < n) (p q : Addr) (v : Int) (hp : ∀ W [Later w0 W], W.cell? p = some (.int .i64 d)) (hq : ∀ W [Later w0 W], W.cell? q = some (.int .i64 v)) :
    Calls Try.prog 90 #[.slice A n c, .pointer (some p), .pointer (some q)] w (Ret (.bool (hasP d v x)) w) := by
  have hn := h.le
  obtain ⟨b, o, s, rfl, hs, hc, hi⟩ := Ints.at_ h hd
  by_cases e : s = v
  · have e1 : (s == v) = true := by simp [e]
    have HN : Hid (hasP d v x = true) := hasP_t hs.out e
    clear e hs hi h
    go_enter Try.func90, Try.ntmps90
    go_wp2_with fail
    go_quiet (fail)
    go_wp2
    go_ret
    exact ⟨ret_bool HN.out.symm, inferInstance⟩
  · have e1 : (s == v) = false := by simp [e]
    have HN : Hid (hasP d v x = false) := hasP_f hs.out e
    clear e hs hi h
    go_enter Try.func90, Try.ntmps90
    go_wp2_with fail
    go_quiet (fail)
    go_wp2
    go_ret
    exact ⟨ret_bool HN.out.symm, inferInstance⟩
theorem slices_IndexRow {w0 w : World} {A : Option Addr} {n c : Nat} {l : List (List Int)} (h : Sl 1 (rSl 1 rInt) w0 A n c l) (hl : Later w0 w) {d : Nat} (hd : ∀ (k : Nat) (x : List Int), l[k]? = some x → d < x.length) (p q : Addr) (v : Int) (hp : ∀ W [Later w0 W], W.cell? p = some (.int .i64 d)) (hq : ∀ W [Later w0 W], W.cell? q = some (.int .i64 v)) :
    Calls Try.prog 96 #[.slice A n c, .func (.func 90) #[] #[.pointer (some p), .pointer (some q)]] w (Ret (.int .i64 (idx (hasP d v) l)) w) := by
  have hn := h.le
  have Hl := Lib.hid h.len
  have HP : Hid (∀ W [Later w0 W], W.cell? p = some (.int .i64 d)) := hp
  have HQ : Hid (∀ W [Later w0 W], W.cell? q = some (.int .i64 v)) := hq
  have HD := Lib.hid hd
  clear hp hq hd
  go_enter Try.func96, Try.ntmps96
  go_wp2
  go_loopw [8] (fun i wr => ∃ k : Nat, k ≤ n ∧ i = .int .i64 k ∧ Hid (idxGo (hasP d v) (l.drop k) k = idx (hasP d v) l) ∧ Later w wr) (fun i _ => n - (intOf i).toNat)
  case atStart => exact ⟨0, by omega, rfl, rfl, inferInstance⟩
  case round =>
    obtain ⟨k, hk, rfl, HF, hX⟩ := hrel
    have hX0 := hl.trans hX
    by_cases hlt : k < n
    · obtain ⟨b, o, A1, n1, c1, x, rfl, hx, hc, hi⟩ := Sl.row_ h hlt
      have HI := Lib.hid hi
      have hdn : d < n1 := by rw [hi.len]; exact HD.out k x hx.out
      have HF1 := HF.out
      rw [drop_at hx.out] at HF1
      simp only [idxGo] at HF1
      clear HF hi
      by_cases hxy : hasP d v x = true
      · rw [if_pos hxy] at HF1
        have HF2 := Lib.hid HF1
        clear HF1
        go_wp2_with ((refine (impl_missing1 HI.out hX0 hdn p q v HP.out HQ.out).mono ?_); rintro e w1 ⟨rfl, L1⟩; have X1 := hX.trans L1)
        go_ret
        exact ⟨ret_int HF2.out, inferInstance⟩
      · rw [if_neg hxy] at HF1
        have HF2 := Lib.hid HF1
        have hxz : hasP d v x = false := by simpa using hxy
        clear HF1 hxy
        go_wp2_with ((refine (impl_missing1 HI.out hX0 hdn p q v HP.out HQ.out).mono ?_); rintro e w1 ⟨rfl, L1⟩; have X1 := hX.trans L1)
        go_roundw
        case rel => exact ⟨k + 1, by omega, by go_num, HF2, inferInstance⟩
        case measure => simp [intOf]; omega
    · have HF2 : Hid (-1 = idx (hasP d v) l) := by
        have h3 := HF.out
        rw [List.drop_eq_nil_of_le (by have := Hl.out; omega)] at h3
        exact h3
      clear HF
      go_wp2
      go_ret
      exact ⟨ret_int HF2.out, inferInstance⟩
theorem slices_ContainsRow {w0 w : World} {A : Option Addr} {n c : Nat} {l : List (List Int)} (h : Sl 1 (rSl 1 rInt) w0 A n c l) (hl : Later w0 w) {d : Nat} (hd : ∀ (k : Nat) (x : List Int), l[k]? = some x → d < x.length) (p q : Addr) (v : Int) (hp : ∀ W [Later w0 W], W.cell? p = some (.int .i64 d)) (hq : ∀ W [Later w0 W], W.cell? q = some (.int .i64 v)) :
    Calls Try.prog 89 #[.slice A n c, .func (.func 90) #[] #[.pointer (some p), .pointer (some q)]] w (Ret (.bool (l.any (hasP d v))) w) := by
  have HE : Hid (0 ≤ idx (hasP d v) l ↔ l.any (hasP d v) = true) := by
    show _ ↔ _
    have := idx_neg_iff (p := hasP d v) (l := l)
    cases hh : l.any (hasP d v) <;> simp [hh] at this ⊢ <;> omega
  go_enter Try.func89, Try.ntmps89
  go_wp2_with (go_at_call 96; refine (slices_IndexRow h (Later.trans hl inferInstance) hd p q v hp hq).mono ?_; rintro e w1 ⟨rfl, L1⟩)
  go_ret
  exact ⟨ret_bool (by rw [Bool.eq_iff_iff]; simpa using HE.out), inferInstance⟩
set_option maxHeartbeats 800000 in
theorem impl_missingShifts {w0 w : World} {sA0 : Option Addr} {sn0 sc0 : Nat} {sA1 : Option Addr} {sn1 sc1 : Nat} {r : Roster} (h : RosterAt w0 sA0 sn0 sc0 sA1 sn1 sc1 r) (hl : Later w0 w) (ok : RosterFacts r) {d : Nat} (hd : d < days r) :
    Calls Try.prog 66 #[.agg #[.slice sA0 sn0 sc0, .int .i64 r.Rules.MinRest, .int .i64 r.Rules.MaxRow, .int .i64 r.Rules.MaxWeek, .slice sA1 sn1 sc1], .int .i64 d] w (RetO 1 oInt (missOf r d) w) := by
  replace h := h.later hl
  have hS := h.l_Shifts
  have hn0 : sn0 ≤ 8 := by rw [hS.len]; exact ok.shifts.2
  have Hls := Lib.hid hS.len
  have HD : Hid (∀ (k : Nat) (x : List Int), r.Plan[k]? = some x → d < x.length) := fun k x hx => by rw [(ok.row k x hx).1]; exact hd
  have HB0 : ∀ W [Later ((w.alloc (.cells #[.slice sA0 sn0 sc0, .int .i64 r.Rules.MinRest, .int .i64 r.Rules.MaxRow, .int .i64 r.Rules.MaxWeek, .slice sA1 sn1 sc1] 45)).alloc (.cells #[.int .i64 (d:Int)] 3)) W] (j : Nat), W.cell? ⟨w.heap.size, j, none⟩ = #[.slice sA0 sn0 sc0, .int .i64 r.Rules.MinRest, .int .i64 r.Rules.MaxRow, .int .i64 r.Rules.MaxWeek, .slice sA1 sn1 sc1][j]? := Later.boxes (t := 45) (fr := (0, 0)) ((heap_old (by simp; try omega)).trans (heap_new (by simp; try omega))); have HB1 : ∀ W [Later ((w.alloc (.cells #[.slice sA0 sn0 sc0, .int .i64 r.Rules.MinRest, .int .i64 r.Rules.MaxRow, .int .i64 r.Rules.MaxWeek, .slice sA1 sn1 sc1] 45)).alloc (.cells #[.int .i64 (d:Int)] 3)) W] (j : Nat), W.cell? ⟨w.heap.size + 1, j, none⟩ = #[.int .i64 (d:Int)][j]? := Later.boxes (t := 3) (fr := (0, 0)) (heap_new (by simp; try omega)); obtain ⟨wb, hwb⟩ : ∃ wb : World, wb = ((w.alloc (.cells #[.slice sA0 sn0 sc0, .int .i64 r.Rules.MinRest, .int .i64 r.Rules.MaxRow, .int .i64 r.Rules.MaxWeek, .slice sA1 sn1 sc1] 45)).alloc (.cells #[.int .i64 (d:Int)] 3)) := ⟨_, rfl⟩; haveI hbW : Later wb ((w.alloc (.cells #[.slice sA0 sn0 sc0, .int .i64 r.Rules.MinRest, .int .i64 r.Rules.MaxRow, .int .i64 r.Rules.MaxWeek, .slice sA1 sn1 sc1] 45)).alloc (.cells #[.int .i64 (d:Int)] 3)) := (by rw [hwb]; exact Later.rfl_); haveI hww : Later w wb := (by rw [hwb]; infer_instance); rw [← hwb] at HB0; rw [← hwb] at HB1; have hbE := Lib.hid (congrArg (fun x : World => x.heap.size) hwb); clear hwb
  have hPw := Lib.hid (h.l_Plan.later hww)
  have HBd : Hid (∀ W [Later wb W], W.cell? ⟨w.heap.size + 1, 0, none⟩ = some (.int .i64 d)) := fun W hW => @HB1 W hW 0
  have hbE := hbE.out
  have hbs : wb.heap.size = w.heap.size + 2 := by simpa using hbE
  clear h hS ok hd hbE
  go_enter Try.func66, Try.ntmps66
  go_wp2
  go_loopw [5, 10] (fun ov i wr => ∃ k : Nat, k ≤ sn0 ∧ i = .int .i64 k ∧ Hid (wr.ownsRow (w.heap.size + 2) 3 1 ov (missK r d k).length ((missK r d k).map (Value.int .i64))) ∧ Later wb wr) (fun _ i _ => sn0 - (intOf i).toNat)
  case atStart => exact ⟨0, by omega, rfl, Lib.hid ⟨rfl, .inl ⟨rfl, rfl⟩⟩, inferInstance⟩
  case round =>
    obtain ⟨k, hk, rfl, hown, hX⟩ := hrel
    by_cases hlt : k < sn0
    · have hml := (missK_bd r d k).2
      have HBX : ∀ W [Later (wr.alloc (.cells #[.int .i64 (k:Int)] 3)) W] (j : Nat), W.cell? ⟨wr.heap.size, j, none⟩ = #[.int .i64 (k:Int)][j]? := Later.boxes (t := 3) (fr := (0, 0)) (heap_new (by simp; try omega)); obtain ⟨wx, hwx⟩ : ∃ wx : World, wx = (wr.alloc (.cells #[.int .i64 (k:Int)] 3)) := ⟨_, rfl⟩; haveI hxW : Later wx (wr.alloc (.cells #[.int .i64 (k:Int)] 3)) := (by rw [hwx]; exact Later.rfl_); haveI hbx : Later wb wx := (by rw [hwx]; infer_instance); rw [← hwx] at HBX; clear hwx
      have HBk : Hid (∀ W [Later wx W], W.cell? ⟨wr.heap.size, 0, none⟩ = some (.int .i64 k)) := fun W hW => @HBX W hW 0
      have hxs := hX.size
      have hPx := Lib.hid (hPw.out.later hbx)
      have HBd2 : Hid (∀ W [Later wx W], W.cell? ⟨w.heap.size + 1, 0, none⟩ = some (.int .i64 d)) := shift' hbx HBd.out
      by_cases c1 : r.Plan.any (hasP d k) = true
      · have HK : Hid (missK r d (k + 1) = missK r d k) := by show _ = _; simp only [missK]; rw [if_pos c1]
        go_wp2_with (go_at_call 89; refine (slices_ContainsRow hPx.out inferInstance HD.out _ _ k HBd2.out HBk.out).mono ?_; rintro e w1 ⟨rfl, L1⟩; have X1 := Later.trans (w := wx) inferInstance L1; have Y1 := Later.trans (w := wb) inferInstance L1; have Z1 := Later.trans (w := wr) inferInstance L1)
        go_roundw
        case rel => exact ⟨k + 1, by omega, by go_num, by rw [HK.out]; exact ownsRow_later' hown.out Z1, inferInstance⟩
        case measure => simp [intOf]; omega
      · have HK : Hid (missK r d (k + 1) = missK r d k ++ [(k : Int)]) := by show _ = _; simp only [missK]; rw [if_neg c1]
        have c2 : r.Plan.any (hasP d k) = false := by simpa using c1
        clear c1
        go_wp2_with first
          | (go_at_call 89; refine (slices_ContainsRow hPx.out inferInstance HD.out _ _ k HBd2.out HBk.out).mono ?_; rintro e w1 ⟨rfl, L1⟩; have X1 := Later.trans (w := wx) inferInstance L1; have Y1 := Later.trans (w := wb) inferInstance L1; have Z1 := Later.trans (w := wr) inferInstance L1)
          | (at_builtin; refine wpList_app_B rfl _ _ 28 rfl Try.underlying28 infoInt rfl (by decide) (by decide) rfl (by exact ownsRow_later' hown.out Z1) (inferInstance : Later wb w1) (by omega) (by have := Y1.size; omega) rfl rfl (one_cell _ _) (by omega) ?_; intro v' w4 hown' hX')
        go_roundw
        case rel => exact ⟨k + 1, by omega, by go_num, by show World.ownsRow _ _ _ _ _ _ _; rw [HK.out, List.map_append, List.length_append]; exact hown', inferInstance⟩
        case measure => simp [intOf]; omega
    · obtain rfl : k = sn0 := by omega
      have HE : Hid (missK r d k = missOf r d) := by show _ = _; unfold missOf; rw [Hls.out]
      go_wp2
      go_ret
      obtain ⟨A, c, fp, rfl, ho, hnd, hlo⟩ := OSl.ints_of_own hown.out (fun y hy => by
        have := (missK_bd r d k).1 y hy
        unfold I64; omega)
      exact ⟨A, _, c, fp, rfl, by rw [← HE.out]; exact ho, hnd, fun g hg => by have := hlo g hg; omega, hww.trans inferInstance⟩
set_option maxHeartbeats 800000 in
theorem spec_l14Missing {w0 w : World} {sA0 : Option Addr} {sn0 sc0 : Nat} {sA1 : Option Addr} {sn1 sc1 : Nat} {r : Roster} (h : RosterAt w0 sA0 sn0 sc0 sA1 sn1 sc1 r) (hl : Later w0 w) (ok : RosterFacts r) {d : Nat} (hd : d < days r) :
    Calls Try.prog 64 #[.agg #[.slice sA0 sn0 sc0, .int .i64 r.Rules.MinRest, .int .i64 r.Rules.MaxRow, .int .i64 r.Rules.MaxWeek, .slice sA1 sn1 sc1], .int .i64 d] w (RetO 1 oInt (missOf r d) w) := by
  replace h := h.later hl
  have hS := h.l_Shifts
  have hP := h.l_Plan
  have hn0 : sn0 ≤ 8 := by rw [hS.len]; exact ok.shifts.2
  have hn1 : sn1 ≤ 6 := by rw [hP.len]; exact ok.plan.2
  have Hls := Lib.hid hS.len
  have Hlp := Lib.hid hP.len
  have HD : Hid (∀ (k : Nat) (x : List Int), r.Plan[k]? = some x → d < x.length) := fun k x hx => by rw [(ok.row k x hx).1]; exact hd
  have HB0 : ∀ W [Later (w.alloc (.cells #[.slice sA0 sn0 sc0, .int .i64 r.Rules.MinRest, .int .i64 r.Rules.MaxRow, .int .i64 r.Rules.MaxWeek, .slice sA1 sn1 sc1] 45)) W] (j : Nat), W.cell? ⟨w.heap.size, j, none⟩ = #[.slice sA0 sn0 sc0, .int .i64 r.Rules.MinRest, .int .i64 r.Rules.MaxRow, .int .i64 r.Rules.MaxWeek, .slice sA1 sn1 sc1][j]? := Later.boxes (t := 45) (fr := (0, 0)) (heap_new (by simp; try omega)); obtain ⟨wb, hwb⟩ : ∃ wb : World, wb = (w.alloc (.cells #[.slice sA0 sn0 sc0, .int .i64 r.Rules.MinRest, .int .i64 r.Rules.MaxRow, .int .i64 r.Rules.MaxWeek, .slice sA1 sn1 sc1] 45)) := ⟨_, rfl⟩; haveI hbW : Later wb (w.alloc (.cells #[.slice sA0 sn0 sc0, .int .i64 r.Rules.MinRest, .int .i64 r.Rules.MaxRow, .int .i64 r.Rules.MaxWeek, .slice sA1 sn1 sc1] 45)) := (by rw [hwb]; exact Later.rfl_); haveI hww : Later w wb := (by rw [hwb]; infer_instance); rw [← hwb] at HB0; have hbE := Lib.hid (congrArg (fun x : World => x.heap.size) hwb); clear hwb
  replace hP := hP.later hww
  have hbE := hbE.out
  have hbs : wb.heap.size = w.heap.size + 1 := by simpa using hbE
  clear h hS ok hd hbE
  go_enter Try.func64, Try.ntmps64
  go_wp2
  go_loopw [5, 6] (fun ov i wr => ∃ k : Nat, k ≤ sn0 ∧ i = .int .i64 k ∧ Hid (wr.ownsRow (w.heap.size + 1) 3 1 ov (missK r d k).length ((missK r d k).map (Value.int .i64))) ∧ Later wb wr) (fun _ i _ => sn0 - (intOf i).toNat)
  case atStart => exact ⟨0, by omega, rfl, Lib.hid (ownsRow_later' (by simpa [missK] using World.ownsRow_lit (base := w.heap.size + 1) (e := 3) (size := 1) (w.alloc (.cells #[.slice sA0 sn0 sc0, .int .i64 r.Rules.MinRest, .int .i64 r.Rules.MaxRow, .int .i64 r.Rules.MaxWeek, .slice sA1 sn1 sc1] 45)) #[] 0 (by simp; try omega) (by simp [maxLen]) rfl) (inferInstance : Later ((w.alloc (.cells #[.slice sA0 sn0 sc0, .int .i64 r.Rules.MinRest, .int .i64 r.Rules.MaxRow, .int .i64 r.Rules.MaxWeek, .slice sA1 sn1 sc1] 45)).alloc (.cells #[] 3)) _)), inferInstance⟩
  case round =>
    obtain ⟨k, hk, rfl, hown, hX⟩ := hrel
    by_cases hlt : k < sn0
    · have hml := (missK_bd r d k).2
      go_wp2
      go_loopw [7, 8] (fun hv i ws => ∃ (j : Nat) (b : Bool), j ≤ sn1 ∧ i = .int .i64 j ∧ hv = .bool b ∧ Hid ((b || (r.Plan.drop j).any (hasP d k)) = r.Plan.any (hasP d k)) ∧ Later wr ws) (fun _ i _ => sn1 - (intOf i).toNat)
      case atStart => exact ⟨0, false, by omega, rfl, rfl, by show _ = _; simp, inferInstance⟩
      case round =>
        obtain ⟨j, bv, hj, rfl, rfl, HF, hY⟩ := hrel
        have hZ := hX.trans hY
        by_cases hlt2 : j < sn1
        · obtain ⟨b, o, A1, n1, c1, x, rfl, hx, hc, hi⟩ := Sl.row_ hP hlt2
          have hdn : d < n1 := by rw [hi.len]; exact HD.out j x hx.out
          obtain ⟨b2, o2, s, rfl, hs, hc2, hsi⟩ := Ints.at_ hi hdn
          have hn9 := hi.le
          have HF1 := HF.out
          rw [drop_at hx.out] at HF1
          simp only [List.any_cons] at HF1
          clear HF hi hsi
          cases bv
          · by_cases e : s = (k : Int)
            · rw [hasP_t hs.out e] at HF1
              have HF2 : Hid ((true || (r.Plan.drop (j + 1)).any (hasP d k)) = r.Plan.any (hasP d k)) := by show _ = _; rw [← HF1]; simp
              have e1 : (s == (k : Int)) = true := by simp [e]
              clear HF1 e hx hs
              go_wp2
              go_roundw
              case rel => exact ⟨j + 1, true, by omega, by go_num, rfl, HF2, inferInstance⟩
              case measure => simp [intOf]; omega
            · rw [hasP_f hs.out e] at HF1
              have HF2 : Hid ((false || (r.Plan.drop (j + 1)).any (hasP d k)) = r.Plan.any (hasP d k)) := by show _ = _; rw [← HF1]; simp
              have e1 : (s == (k : Int)) = false := by simp [e]
              clear HF1 e hx hs
              go_wp2
              go_roundw
              case rel => exact ⟨j + 1, false, by omega, by go_num, rfl, HF2, inferInstance⟩
              case measure => simp [intOf]; omega
          · have HF2 : Hid ((true || (r.Plan.drop (j + 1)).any (hasP d k)) = r.Plan.any (hasP d k)) := by show _ = _; rw [← HF1]; simp
            clear HF1 hx hs
            go_wp2
            go_roundw
            case rel => exact ⟨j + 1, true, by omega, by go_num, rfl, HF2, inferInstance⟩
            case measure => simp [intOf]; omega
        · have HF1 : Hid (bv = r.Plan.any (hasP d k)) := by
            show _ = _
            rw [← HF.out, List.drop_eq_nil_of_le (by have := Hlp.out; omega)]; simp
          clear HF
          cases bv
          · have HK : Hid (missK r d (k + 1) = missK r d k ++ [(k : Int)]) := by show _ = _; simp only [missK]; rw [← HF1.out]; simp
            clear HF1
            go_wp2_with (at_builtin; refine wpList_app_B rfl _ _ 28 rfl Try.underlying28 infoInt rfl (by decide) (by decide) rfl (by exact ownsRow_later' hown.out hY) (hX.trans hY) (by omega) (by have := hZ.size; omega) rfl rfl (one_cell _ _) (by omega) ?_; intro v' w4 hown' hX')
            go_roundw
            case rel => exact ⟨k + 1, by omega, by go_num, by show World.ownsRow _ _ _ _ _ _ _; rw [HK.out, List.map_append, List.length_append]; exact hown', inferInstance⟩
            case measure => simp [intOf]; omega
          · have HK : Hid (missK r d (k + 1) = missK r d k) := by show _ = _; simp only [missK]; rw [← HF1.out]; simp
            clear HF1
            go_wp2
            go_roundw
            case rel => exact ⟨k + 1, by omega, by go_num, by rw [HK.out]; exact ownsRow_later' hown.out hY, inferInstance⟩
            case measure => simp [intOf]; omega
    · obtain rfl : k = sn0 := by omega
      have HE : Hid (missK r d k = missOf r d) := by show _ = _; unfold missOf; rw [Hls.out]
      go_wp2
      go_ret
      obtain ⟨A, c, fp, rfl, ho, hnd, hlo⟩ := OSl.ints_of_own hown.out (fun y hy => by
        have := (missK_bd r d k).1 y hy
        unfold I64; omega)
      exact ⟨A, _, c, fp, rfl, by rw [← HE.out]; exact ho, hnd, fun g hg => by have := hlo g hg; omega, hww.trans inferInstance⟩
def missOk (r : Roster) (d : Int) : Bool := okRoster r && inB d 0 ((days r : Int) - 1)
def missRes (r : Roster) (d : Int) : List Int × Bool := if missOk r d then (missOf r d.toNat, true) else ([], false)
theorem missOk_t {r : Roster} {d : Int} (h : missOk r d = true) : okRoster r = true ∧ inB d 0 ((days r : Int) - 1) = true ∧ ∃ m : Nat, d = m ∧ m < days r := by
  unfold missOk at h
  simp only [Bool.and_eq_true] at h
  have := inB_t.1 h.2
  exact ⟨h.1, h.2, d.toNat, by omega, by omega⟩
theorem missRes_len (r : Roster) (d : Int) : (missRes r d).1.length ≤ 8 := by
  unfold missRes
  split
  · rename_i ha
    have ok := rosterFacts (missOk_t ha).1
    have := (missK_bd r d.toNat r.Shifts.length).2
    have := ok.shifts.2
    show (missOf r d.toNat).length ≤ 8
    unfold missOf
    omega
  · simp
theorem impl_MissingShifts {w0 w : World} {sA0 : Option Addr} {sn0 sc0 : Nat} {sA1 : Option Addr} {sn1 sc1 : Nat} {r : Roster} (h : RosterAt w0 sA0 sn0 sc0 sA1 sn1 sc1 r) (hl : Later w0 w) (d : Int) :
    Calls Try.prog 33 #[.agg #[.slice sA0 sn0 sc0, .int .i64 r.Rules.MinRest, .int .i64 r.Rules.MaxRow, .int .i64 r.Rules.MaxWeek, .slice sA1 sn1 sc1], .int .i64 d] w (RetO2 1 oInt (missRes r d).1 (missRes r d).2 w) := by
  by_cases hv : okRoster r = true
  · have ok := rosterFacts hv
    have Ok := Lib.hid ok
    have hP := h.l_Plan
    have hm := hP.le
    have h0n : 0 < sn1 := by rw [hP.len]; have := ok.plan.1; omega
    obtain ⟨b, o, A1, n1, c1, x, rfl, hx, hc0, hi⟩ := Sl.row_ hP h0n
    have hn1 := hi.le
    have hxl := (ok.row 0 x hx.out).1
    have hxd : Hid (n1 = days r) := by show _ = _; rw [hi.len, hxl]; rfl
    simp only [Nat.add_zero] at hc0
    replace hc0 := shift' hl hc0
    have HV := Lib.hid hv
    clear hi hxl hx
    by_cases hb : inB d 0 ((n1 : Int) - 1) = true
    · obtain ⟨-, -, m, rfl, hmd⟩ := missOk_t (r := r) (d := d) (by unfold missOk; rw [hv, ← hxd.out, hb]; rfl)
      rw [show missRes r m = (missOf r m, true) from by unfold missRes missOk; rw [hv, ← hxd.out, hb]; rfl]
      clear ok
      have HB0 : ∀ W [Later (w.alloc (.cells #[.slice sA0 sn0 sc0, .int .i64 r.Rules.MinRest, .int .i64 r.Rules.MaxRow, .int .i64 r.Rules.MaxWeek, .slice (some ⟨b, o, none⟩) sn1 sc1] 45)) W] (j : Nat), W.cell? ⟨w.heap.size, j, none⟩ = #[.slice sA0 sn0 sc0, .int .i64 r.Rules.MinRest, .int .i64 r.Rules.MaxRow, .int .i64 r.Rules.MaxWeek, .slice (some ⟨b, o, none⟩) sn1 sc1][j]? := Later.boxes (t := 45) (fr := (0, 0)) (heap_new (by simp; try omega))
      go_enter Try.func33, Try.ntmps33
      go_wp2_with first
        | (go_at_call 24; refine (impl_IsValidRoster h (Later.trans hl inferInstance)).mono ?_; rintro e w1 ⟨rfl, hL⟩; have hX := Later.trans (w := (w.alloc (.cells #[.slice sA0 sn0 sc0, .int .i64 r.Rules.MinRest, .int .i64 r.Rules.MaxRow, .int .i64 r.Rules.MaxWeek, .slice (some ⟨b, o, none⟩) sn1 sc1] 45))) inferInstance hL; have hU := Later.trans (w := w) inferInstance hL)
        | (go_at_call 65; refine (impl_isRosterDay h (Later.trans hl inferInstance) Ok.out _).mono ?_; rw [← hxd.out]; rintro e w2 ⟨rfl, hL2⟩; have hX2 := Later.trans (w := (w.alloc (.cells #[.slice sA0 sn0 sc0, .int .i64 r.Rules.MinRest, .int .i64 r.Rules.MaxRow, .int .i64 r.Rules.MaxWeek, .slice (some ⟨b, o, none⟩) sn1 sc1] 45))) inferInstance hL2; have hV := Later.trans (w := w) inferInstance hL2)
        | (go_at_call 66; refine (impl_missingShifts h (Later.trans hl inferInstance) Ok.out hmd).mono ?_; rintro e w3 ⟨A, n, c, fp, rfl, ho, hnd, hlo, hL3⟩; have hZ := Later.trans (w := w) inferInstance hL3)
      go_ret2
      exact ⟨A, n, c, fp, rfl, ho, hnd, fun g hg => Nat.le_trans (Later.size (w := w) inferInstance) (hlo g hg), inferInstance⟩
    · have hb2 : inB d 0 ((n1 : Int) - 1) = false := by simpa using hb
      rw [show missRes r d = ([], false) from by unfold missRes missOk; rw [hv, ← hxd.out, hb2]; rfl]
      clear hb ok
      have HB0 : ∀ W [Later (w.alloc (.cells #[.slice sA0 sn0 sc0, .int .i64 r.Rules.MinRest, .int .i64 r.Rules.MaxRow, .int .i64 r.Rules.MaxWeek, .slice (some ⟨b, o, none⟩) sn1 sc1] 45)) W] (j : Nat), W.cell? ⟨w.heap.size, j, none⟩ = #[.slice sA0 sn0 sc0, .int .i64 r.Rules.MinRest, .int .i64 r.Rules.MaxRow, .int .i64 r.Rules.MaxWeek, .slice (some ⟨b, o, none⟩) sn1 sc1][j]? := Later.boxes (t := 45) (fr := (0, 0)) (heap_new (by simp; try omega))
      go_enter Try.func33, Try.ntmps33
      go_wp2_with first
        | (go_at_call 24; refine (impl_IsValidRoster h (Later.trans hl inferInstance)).mono ?_; rintro e w1 ⟨rfl, hL⟩; have hX := Later.trans (w := (w.alloc (.cells #[.slice sA0 sn0 sc0, .int .i64 r.Rules.MinRest, .int .i64 r.Rules.MaxRow, .int .i64 r.Rules.MaxWeek, .slice (some ⟨b, o, none⟩) sn1 sc1] 45))) inferInstance hL; have hU := Later.trans (w := w) inferInstance hL)
        | (go_at_call 65; refine (impl_isRosterDay h (Later.trans hl inferInstance) Ok.out _).mono ?_; rw [← hxd.out]; rintro e w2 ⟨rfl, hL2⟩; have hX2 := Later.trans (w := (w.alloc (.cells #[.slice sA0 sn0 sc0, .int .i64 r.Rules.MinRest, .int .i64 r.Rules.MaxRow, .int .i64 r.Rules.MaxWeek, .slice (some ⟨b, o, none⟩) sn1 sc1] 45))) inferInstance hL2; have hV := Later.trans (w := w) inferInstance hL2)
        | (go_at_call 66; refine (impl_missingShifts h (Later.trans hl inferInstance) Ok.out hmd).mono ?_; rintro e w3 ⟨A, n, c, fp, rfl, ho, hnd, hlo, hL3⟩; have hZ := Later.trans (w := w) inferInstance hL3)
      go_ret2
      exact ⟨_, _, _, [], rfl, OSl.nil_ _, by simp, by simp, inferInstance⟩
  · have hv0 : okRoster r = false := by simpa using hv
    have HV := Lib.hid hv0
    have hxd : Hid True := trivial
    rw [show missRes r d = ([], false) from by unfold missRes missOk; rw [hv0]; rfl]
    clear hv
    have HB0 : ∀ W [Later (w.alloc (.cells #[.slice sA0 sn0 sc0, .int .i64 r.Rules.MinRest, .int .i64 r.Rules.MaxRow, .int .i64 r.Rules.MaxWeek, .slice sA1 sn1 sc1] 45)) W] (j : Nat), W.cell? ⟨w.heap.size, j, none⟩ = #[.slice sA0 sn0 sc0, .int .i64 r.Rules.MinRest, .int .i64 r.Rules.MaxRow, .int .i64 r.Rules.MaxWeek, .slice sA1 sn1 sc1][j]? := Later.boxes (t := 45) (fr := (0, 0)) (heap_new (by simp; try omega))
    go_enter Try.func33, Try.ntmps33
    go_wp2_with first
      | (go_at_call 24; refine (impl_IsValidRoster h (Later.trans hl inferInstance)).mono ?_; rintro e w1 ⟨rfl, hL⟩; have hX := Later.trans (w := (w.alloc (.cells #[.slice sA0 sn0 sc0, .int .i64 r.Rules.MinRest, .int .i64 r.Rules.MaxRow, .int .i64 r.Rules.MaxWeek, .slice sA1 sn1 sc1] 45))) inferInstance hL; have hU := Later.trans (w := w) inferInstance hL)
      | (go_at_call 65; refine (impl_isRosterDay h (Later.trans hl inferInstance) Ok.out _).mono ?_; rw [← hxd.out]; rintro e w2 ⟨rfl, hL2⟩; have hX2 := Later.trans (w := (w.alloc (.cells #[.slice sA0 sn0 sc0, .int .i64 r.Rules.MinRest, .int .i64 r.Rules.MaxRow, .int .i64 r.Rules.MaxWeek, .slice sA1 sn1 sc1] 45))) inferInstance hL2; have hV := Later.trans (w := w) inferInstance hL2)
      | (go_at_call 66; refine (impl_missingShifts h (Later.trans hl inferInstance) Ok.out hmd).mono ?_; rintro e w3 ⟨A, n, c, fp, rfl, ho, hnd, hlo, hL3⟩; have hZ := Later.trans (w := w) inferInstance hL3)
    go_ret2
    exact ⟨_, _, _, [], rfl, OSl.nil_ _, by simp, by simp, inferInstance⟩
theorem spec_MissingShifts {w0 w : World} {sA0 : Option Addr} {sn0 sc0 : Nat} {sA1 : Option Addr} {sn1 sc1 : Nat} {r : Roster} (h : RosterAt w0 sA0 sn0 sc0 sA1 sn1 sc1 r) (hl : Later w0 w) (d : Int) :
    Calls Try.prog 32 #[.agg #[.slice sA0 sn0 sc0, .int .i64 r.Rules.MinRest, .int .i64 r.Rules.MaxRow, .int .i64 r.Rules.MaxWeek, .slice sA1 sn1 sc1], .int .i64 d] w (RetO2 1 oInt (missRes r d).1 (missRes r d).2 w) := by
  by_cases hv : okRoster r = true
  · have ok := rosterFacts hv
    have Ok := Lib.hid ok
    have hP := h.l_Plan
    have hm := hP.le
    have h0n : 0 < sn1 := by rw [hP.len]; have := ok.plan.1; omega
    obtain ⟨b, o, A1, n1, c1, x, rfl, hx, hc0, hi⟩ := Sl.row_ hP h0n
    have hn1 := hi.le
    have hxl := (ok.row 0 x hx.out).1
    have hxd : Hid (n1 = days r) := by show _ = _; rw [hi.len, hxl]; rfl
    simp only [Nat.add_zero] at hc0
    replace hc0 := shift' hl hc0
    have HV := Lib.hid hv
    clear hi hxl hx
    by_cases hb : inB d 0 ((n1 : Int) - 1) = true
    · obtain ⟨-, -, m, rfl, hmd⟩ := missOk_t (r := r) (d := d) (by unfold missOk; rw [hv, ← hxd.out, hb]; rfl)
      rw [show missRes r m = (missOf r m, true) from by unfold missRes missOk; rw [hv, ← hxd.out, hb]; rfl]
      clear ok
      have HB0 : ∀ W [Later (w.alloc (.cells #[.slice sA0 sn0 sc0, .int .i64 r.Rules.MinRest, .int .i64 r.Rules.MaxRow, .int .i64 r.Rules.MaxWeek, .slice (some ⟨b, o, none⟩) sn1 sc1] 45)) W] (j : Nat), W.cell? ⟨w.heap.size, j, none⟩ = #[.slice sA0 sn0 sc0, .int .i64 r.Rules.MinRest, .int .i64 r.Rules.MaxRow, .int .i64 r.Rules.MaxWeek, .slice (some ⟨b, o, none⟩) sn1 sc1][j]? := Later.boxes (t := 45) (fr := (0, 0)) (heap_new (by simp; try omega))
      go_enter Try.func32, Try.ntmps32
      have hwr : IntKind.i64.wrap ((n1 : Int) - 1) = (n1 : Int) - 1 := by rw [IntKind.wrap_i64]; omega
      go_wp2_with first
        | (go_at_call 48; refine (spec_l14Good h (Later.trans hl inferInstance)).mono ?_; rintro e w1 ⟨rfl, hL⟩; have hX := Later.trans (w := (w.alloc (.cells #[.slice sA0 sn0 sc0, .int .i64 r.Rules.MinRest, .int .i64 r.Rules.MaxRow, .int .i64 r.Rules.MaxWeek, .slice (some ⟨b, o, none⟩) sn1 sc1] 45))) inferInstance hL; have hU := Later.trans (w := w) inferInstance hL)
        | (go_at_call 44; refine (spec_l1In _ _ _ _).mono ?_; rintro e w' ⟨rfl, rfl⟩)
        | (go_at_call 64; refine (spec_l14Missing h (Later.trans hl inferInstance) Ok.out hmd).mono ?_; rintro e w3 ⟨A, n, c, fp, rfl, ho, hnd, hlo, hL3⟩; have hZ := Later.trans (w := w) inferInstance hL3)
      go_ret2
      exact ⟨A, n, c, fp, rfl, ho, hnd, fun g hg => Nat.le_trans (Later.size (w := w) inferInstance) (hlo g hg), inferInstance⟩
    · have hb2 : inB d 0 ((n1 : Int) - 1) = false := by simpa using hb
      rw [show missRes r d = ([], false) from by unfold missRes missOk; rw [hv, ← hxd.out, hb2]; rfl]
      clear hb ok
      have HB0 : ∀ W [Later (w.alloc (.cells #[.slice sA0 sn0 sc0, .int .i64 r.Rules.MinRest, .int .i64 r.Rules.MaxRow, .int .i64 r.Rules.MaxWeek, .slice (some ⟨b, o, none⟩) sn1 sc1] 45)) W] (j : Nat), W.cell? ⟨w.heap.size, j, none⟩ = #[.slice sA0 sn0 sc0, .int .i64 r.Rules.MinRest, .int .i64 r.Rules.MaxRow, .int .i64 r.Rules.MaxWeek, .slice (some ⟨b, o, none⟩) sn1 sc1][j]? := Later.boxes (t := 45) (fr := (0, 0)) (heap_new (by simp; try omega))
      go_enter Try.func32, Try.ntmps32
      have hwr : IntKind.i64.wrap ((n1 : Int) - 1) = (n1 : Int) - 1 := by rw [IntKind.wrap_i64]; omega
      go_wp2_with first
        | (go_at_call 48; refine (spec_l14Good h (Later.trans hl inferInstance)).mono ?_; rintro e w1 ⟨rfl, hL⟩; have hX := Later.trans (w := (w.alloc (.cells #[.slice sA0 sn0 sc0, .int .i64 r.Rules.MinRest, .int .i64 r.Rules.MaxRow, .int .i64 r.Rules.MaxWeek, .slice (some ⟨b, o, none⟩) sn1 sc1] 45))) inferInstance hL; have hU := Later.trans (w := w) inferInstance hL)
        | (go_at_call 44; refine (spec_l1In _ _ _ _).mono ?_; rintro e w' ⟨rfl, rfl⟩)
        | (go_at_call 64; refine (spec_l14Missing h (Later.trans hl inferInstance) Ok.out hmd).mono ?_; rintro e w3 ⟨A, n, c, fp, rfl, ho, hnd, hlo, hL3⟩; have hZ := Later.trans (w := w) inferInstance hL3)
      go_ret2
      exact ⟨_, _, _, [], rfl, OSl.nil_ _, by simp, by simp, inferInstance⟩
  · have hv0 : okRoster r = false := by simpa using hv
    have HV := Lib.hid hv0
    have hxd : Hid True := trivial
    rw [show missRes r d = ([], false) from by unfold missRes missOk; rw [hv0]; rfl]
    clear hv
    have HB0 : ∀ W [Later (w.alloc (.cells #[.slice sA0 sn0 sc0, .int .i64 r.Rules.MinRest, .int .i64 r.Rules.MaxRow, .int .i64 r.Rules.MaxWeek, .slice sA1 sn1 sc1] 45)) W] (j : Nat), W.cell? ⟨w.heap.size, j, none⟩ = #[.slice sA0 sn0 sc0, .int .i64 r.Rules.MinRest, .int .i64 r.Rules.MaxRow, .int .i64 r.Rules.MaxWeek, .slice sA1 sn1 sc1][j]? := Later.boxes (t := 45) (fr := (0, 0)) (heap_new (by simp; try omega))
    go_enter Try.func32, Try.ntmps32
    go_wp2_with (go_at_call 48; refine (spec_l14Good h (Later.trans hl inferInstance)).mono ?_; rintro e w1 ⟨rfl, hL⟩; have hX := Later.trans (w := (w.alloc (.cells #[.slice sA0 sn0 sc0, .int .i64 r.Rules.MinRest, .int .i64 r.Rules.MaxRow, .int .i64 r.Rules.MaxWeek, .slice sA1 sn1 sc1] 45))) inferInstance hL; have hU := Later.trans (w := w) inferInstance hL)
    go_ret2
    exact ⟨_, _, _, [], rfl, OSl.nil_ _, by simp, by simp, inferInstance⟩
end Go.Proofs.Ythoappgpkelakaa
