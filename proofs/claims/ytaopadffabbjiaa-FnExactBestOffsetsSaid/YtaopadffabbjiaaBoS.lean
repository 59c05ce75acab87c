/-
  Headways: spec.BestOffsets.
-/
import Derived.Test.YtaopadffabbjiaaBoI
import Derived.Test.YtaopadffabbjiaaRowA
namespace Go.Proofs.Ytaopadffabbjiaa
open Go Go.RowKit
set_option linter.unusedVariables false
set_option maxRecDepth 100000
set_option linter.unusedSimpArgs false
/-- What stands up to m, with what has been written behind it. -/
def mix (a : List Int) (m : Nat) (ts : List Int) : List Int := a.take (m + 1) ++ ts
theorem mix_set {a : List Int} {m : Nat} {ts : List Int} (h : m < a.length) (v : Int) : (mix a m ts).set m v = a.take m ++ v :: ts := by
  unfold mix
  rw [List.set_append_left _ _ (by rw [List.length_take]; omega), List.take_add_one, List.getElem?_eq_getElem h]
  simp only [Option.toList]
  rw [List.set_append_right _ _ (by rw [List.length_take]; omega), List.length_take, Nat.min_eq_left (by omega), Nat.sub_self]
  simp
theorem mix_step {a : List Int} {m : Nat} {ts : List Int} (h : m < a.length) (h1 : 1 ≤ m) (v : Int) : (mix a m ts).set m v = mix a (m - 1) (v :: ts) := by
  rw [mix_set h]
  unfold mix
  rw [show m - 1 + 1 = m by omega]
theorem mix_len {a : List Int} {m : Nat} {ts : List Int} (h : ts.length + m + 1 = a.length) : (mix a m ts).length = a.length := by unfold mix; rw [List.length_append, List.length_take]; omega
theorem mix_all {a : List Int} : mix a (a.length - 1) [] = a := by
  unfold mix
  rw [List.append_nil, List.take_of_length_le (by omega)]
structure BoIn (l : List Pattern) (p c m x : Nat) (ts : List Int) : Prop where
  len : ts.length + m + 1 = l.length
  dig : digs p c (l.length - 1) = digs p x m ++ ts
  bd : ∀ v, v ∈ ts → 0 ≤ v ∧ v < p
theorem BoIn.start {l : List Pattern} {p c : Nat} (h : 1 ≤ l.length) : BoIn l p c (l.length - 1) c [] := ⟨by simp; omega, by simp, by simp⟩
theorem BoIn.step {l : List Pattern} {p c m x : Nat} {ts : List Int} (h : BoIn l p c m x ts) (hp : 1 ≤ p) (hm : 1 ≤ m) : BoIn l p c (m - 1) (x / p) (((x % p : Nat) : Int) :: ts) := by
  refine ⟨by have := h.len; simp; omega, ?_, ?_⟩
  · obtain ⟨k, rfl⟩ : ∃ k, m = k + 1 := ⟨m - 1, by omega⟩
    rw [h.dig]
    show digs p (x / p) k ++ [((x % p : Nat) : Int)] ++ ts = digs p (x / p) k ++ ((x % p : Nat) : Int) :: ts
    rw [List.append_assoc]; rfl
  · intro v hv
    rcases List.mem_cons.1 hv with rfl | hv
    · have := Nat.mod_lt x (show 0 < p by omega); omega
    · exact h.bd v hv
theorem BoIn.done {l : List Pattern} {p c x : Nat} {ts : List Int} (h : BoIn l p c 0 x ts) : (l.headD default).Offset :: ts = offsC l p c := by
  unfold offsC; rw [h.dig]; rfl
theorem BoIn.mixIn {n : Network} {l : List Pattern} {p c m x : Nat} {ts : List Int} (h : BoIn l p c m x ts) (pf : PatFacts n (p : Int) l) : OffsIn l (p : Int) (mix (l.map (·.Offset)) m ts) := by
  refine ⟨by rw [mix_len (by rw [List.length_map]; exact h.len), List.length_map], fun v hv => ?_⟩
  rcases List.mem_append.1 hv with hv | hv
  · exact (self_in pf).bd v (List.mem_of_mem_take hv)
  · exact h.bd v hv
def offAtS (n : Network) (period : Int) (l : List Pattern) (stop : Int) (c : Nat) : List Int × Int := match bstC (gapC n period l stop) c with | none => ([], period + 1) | some b => (offsC l period.toNat b, gapC n period l stop b)
theorem offAtS_end {n : Network} {period : Int} {l : List Pattern} {stop : Int} {c : Nat} (h : 0 < c) : offAtS n period l stop c = offAt n period l stop c := by
  obtain ⟨b, hb, _⟩ := bstC_some (gapC n period l stop) c h
  unfold offAtS offAt; rw [hb]; rfl
theorem offAtS_new {n : Network} {period : Int} {l : List Pattern} {stop : Int} {c : Nat} (h : gapC n period l stop c < (offAtS n period l stop c).2) : offAtS n period l stop (c + 1) = (offsC l period.toNat c, gapC n period l stop c) := by
  have h1 : bstC (gapC n period l stop) (c + 1) = some c := by
    refine bstC_new ?_
    unfold offAtS at h
    cases hb : bstC (gapC n period l stop) c with
    | none => exact .inl rfl
    | some b => rw [hb] at h; exact .inr ⟨b, rfl, h⟩
  unfold offAtS; rw [h1]
theorem offAtS_old {n : Network} {period : Int} {l : List Pattern} {stop : Int} {c : Nat} (pf : PatFacts n period l) (h : ¬ gapC n period l stop c < (offAtS n period l stop c).2) : offAtS n period l stop (c + 1) = offAtS n period l stop c := by
  have h2 := gapO_le (stop := stop) pf (offsC_in (c := c) pf)
  cases hb : bstC (gapC n period l stop) c with
  | none =>
    unfold offAtS at h; rw [hb] at h
    unfold gapC at h
    simp only at h
    omega
  | some b =>
    have h3 := h
    unfold offAtS at h3; rw [hb] at h3
    have h1 := bstC_old hb h3
    unfold offAtS; rw [h1, hb]
theorem pow_le {p e : Nat} (hp : p ≤ 20) (he : e ≤ 2) : p ^ e ≤ 400 := by
  have h1 : p ^ e ≤ 20 ^ e := Nat.pow_le_pow_left hp e
  have h2 : 20 ^ e ≤ 20 ^ 2 := Nat.pow_le_pow_right (by omega) he
  omega
theorem pow_pos1 {p e : Nat} (hp : 1 ≤ p) : 1 ≤ p ^ e := Nat.pow_pos hp
/-- A pattern of the variant, written anew. -/
theorem own_pt {w : World} {base q c : Nat} {l : List Pattern} {os : List Int} {m : Nat} {x : Pattern} {v : Int} (h : w.ownsRow base 122 2 (.slice (some ⟨q, 0, none⟩) l.length c) l.length ((withO l os).flatMap encPt)) (hl : os.length = l.length) (hx : l[m]? = some x) :
    ((w.setCell ⟨q, m * 2, none⟩ (.int .i64 x.Line)).setCell ⟨q, m * 2 + 1, none⟩ (.int .i64 v)).ownsRow base 122 2 (.slice (some ⟨q, 0, none⟩) l.length c) l.length ((withO l (os.set m v)).flatMap encPt) := by
  have hm : m < l.length := by
    rcases Nat.lt_or_ge m l.length with hlt | hge
    · exact hlt
    · rw [List.getElem?_eq_none hge] at hx; cases hx
  have hy := withO_at hx (List.getElem?_eq_getElem (l := os) (i := m) (by omega))
  have h1 := own_put (own_put h (m * 2) (.int .i64 x.Line)) (m * 2 + 1) (.int .i64 v)
  have e1 : ((withO l os).flatMap encPt).set (m * 2) (.int .i64 x.Line) = (withO l os).flatMap encPt := by
    refine List.ext_getElem? fun k => ?_
    rw [List.getElem?_set]
    split
    · rename_i e; subst e
      split
      · rw [(pt_at hy).1]; rfl
      · rename_i h9; rw [List.getElem?_eq_none (by omega)]
    · rfl
  rw [e1, pt_set hy, withO_set hl hy] at h1
  exact h1
set_option maxHeartbeats 1600000 in
theorem spec_BestOffsets {w0 w w2 : World} {sA0 : Option Addr} {sn0 sc0 : Nat} {sA1 : Option Addr} {sn1 sc1 : Nat} {n : Network} (h : NetworkAt w0 sA0 sn0 sc0 sA1 sn1 sc1 n) (hl : Later w0 w) (period : Int) {qA : Option Addr} {qn qc : Nat} {l : List Pattern} (h2 : Patterns w2 qA qn qc l) (hl2 : Later w2 w) (stop : Int) : Calls Try.prog 30 #[.agg #[.slice sA0 sn0 sc0, .slice sA1 sn1 sc1], .int .i64 period, .slice qA qn qc, .int .i64 stop] w (RetO3 1 oInt (offRes n period l stop).1 (offRes n period l stop).2.1 (offRes n period l stop).2.2 w) := by
  have hP := h2.later hl2
  have HSL := Lib.hid h.l_Stops.len
  have HB0 : ∀ W [Later (w.alloc (.cells #[.slice sA0 sn0 sc0, .slice sA1 sn1 sc1] 38)) W] (j : Nat), W.cell? ⟨w.heap.size, j, none⟩ = #[.slice sA0 sn0 sc0, .slice sA1 sn1 sc1][j]? := Later.boxes (t := 38) (fr := (0, 0)) (heap_new (by simp; try omega)); obtain ⟨wb, hwb⟩ : ∃ wb : World, wb = (w.alloc (.cells #[.slice sA0 sn0 sc0, .slice sA1 sn1 sc1] 38)) := ⟨_, rfl⟩; haveI hbW : Later wb (w.alloc (.cells #[.slice sA0 sn0 sc0, .slice sA1 sn1 sc1] 38)) := (by rw [hwb]; exact Later.rfl_); haveI hww : Later w wb := (by rw [hwb]; infer_instance); rw [← hwb] at HB0; have hbE := Lib.hid (congrArg (fun x : World => x.heap.size) hwb); clear hwb
  have hwb0 := hl.trans hww
  have hwb2 := hl2.trans hww
  have H := Lib.hid h
  have H2 := Lib.hid h2
  replace hP := hP.later hww
  have hq := hP.le
  have Hl := Lib.hid hP.len
  clear h h2
  have hbs : wb.heap.size = w.heap.size + 1 := by simpa using hbE.out
  clear hbE
  by_cases c02 : okPassed n period l stop = true ∧ ¬ rests n period l stop = []
  rotate_left
  · rw [show offRes n period l stop = ([], 0, false) from if_neg (fun hh => c02 ⟨hh.1, hh.2.2⟩)]
    have HLR : Hid (largeRes n period l stop = (0, 0, false)) := if_neg (fun hh => c02 hh)
    clear c02
    go_enter Try.func30, Try.ntmps30
    go_wp2_with (go_at_call 75; refine (spec_LargestGap H.out (hwb0.trans inferInstance) _ H2.out (hwb2.trans inferInstance) stop).mono ?_; rw [HLR.out]; rintro e w1 ⟨rfl, L1⟩; have X1 := Later.trans (w := wb) inferInstance L1)
    go_ret3
    exact ⟨_, _, _, [], rfl, OSl.nil_ _, by simp, by simp, hww.trans inferInstance⟩
  obtain ⟨c0, c2⟩ := c02
  obtain ⟨ga, gb, hlr⟩ : ∃ ga gb, largeRes n period l stop = (ga, gb, true) := ⟨_, _, if_pos ⟨c0, c2⟩⟩
  have HLR := Lib.hid hlr
  clear hlr
  have PF := Lib.hid (okPassed_pat c0)
  by_cases c1 : period ≤ 20
  rotate_left
  · rw [show offRes n period l stop = ([], 0, false) from if_neg (fun hh => c1 hh.2.1)]
    go_enter Try.func30, Try.ntmps30
    go_wp2_with (go_at_call 75; refine (spec_LargestGap H.out (hwb0.trans inferInstance) _ H2.out (hwb2.trans inferInstance) stop).mono ?_; rw [HLR.out]; rintro e w1 ⟨rfl, L1⟩; have X1 := Later.trans (w := wb) inferInstance L1)
    go_ret3
    exact ⟨_, _, _, [], rfl, OSl.nil_ _, by simp, by simp, hww.trans inferInstance⟩
  obtain rfl : qn = l.length := Hl.out
  have hq3 := PF.out.len.2
  have hq1 := PF.out.len.1
  have hp1 := PF.out.per.1
  obtain ⟨p, rfl⟩ := Int.eq_ofNat_of_zero_le (show 0 ≤ period by omega)
  have hp20 : p ≤ 20 := by omega
  have hp0 : 1 ≤ p := by omega
  have hnl : Hid ((n.Lines.length : Int) ≤ 1048576) := by have := (netFacts PF.out.net).lines; show _ ≤ _; omega
  have hne : Hid (0 < (rests n (p : Int) l stop).length) := by show 0 < _; exact Nat.pos_of_ne_zero (fun e => c2 (List.length_eq_zero_iff.1 e))
  rw [show offRes n (p : Int) l stop = ((offAt n (p : Int) l stop (manyC l p)).1, (offAt n (p : Int) l stop (manyC l p)).2, true) from by unfold offRes offAt; rw [if_pos ⟨c0, c1, c2⟩, Int.toNat_natCast]]
  have hM1 : 1 ≤ manyC l p := pow_pos1 hp0
  have hM2 : manyC l p ≤ 400 := pow_le hp20 (by omega)
  rw [← offAtS_end hM1]
  clear c0 c1 c2
  obtain ⟨qb, qo, x0, rfl, hx0, _, _, _⟩ := Patterns.at_ hP hq1
  have hmk := make_ints l.length (by omega)
  obtain ⟨M, hM⟩ : ∃ M, M = manyC l p := ⟨_, rfl⟩
  rw [← hM] at hM1 hM2 ⊢
  have HM := Lib.hid hM
  clear hM
  go_enter Try.func30, Try.ntmps30
  go_wp2_with (go_at_call 75; refine (spec_LargestGap H.out (hwb0.trans inferInstance) _ H2.out (hwb2.trans inferInstance) stop).mono ?_; rw [HLR.out]; rintro e w1 ⟨rfl, L1⟩; have X1 := Later.trans (w := wb) inferInstance L1)
  go_loopw [14, 15] (fun mv iv wr => ∃ (k y : Nat), 1 ≤ k ∧ k ≤ l.length ∧ iv = .int .i64 (k : Int) ∧ mv = .int .i64 (y : Int) ∧ Hid (y = p ^ (k - 1)) ∧ Later wb wr) (fun _ iv _ => l.length - (intOf iv).toNat)
  case atStart => exact ⟨1, 1, by omega, by omega, rfl, rfl, Lib.hid (by simp), inferInstance⟩
  case round =>
    obtain ⟨k, y, hk1, hk2, rfl, rfl, HY, hX⟩ := hrel
    by_cases hkl : k < l.length
    · obtain ⟨y2, hy2⟩ : ∃ y2, y2 = y * p := ⟨_, rfl⟩
      have HY2 : Hid (y2 = p ^ (k + 1 - 1)) := by show _ = _; rw [hy2, HY.out, ← Nat.pow_succ]; congr 1; omega
      have hy3 : y2 ≤ 400 := by rw [HY2.out]; exact pow_le hp20 (by omega)
      have hmul : (y : Int) * (p : Int) = (y2 : Int) := by rw [hy2, Int.natCast_mul]
      clear hy2
      go_wp2
      go_roundw
      case rel => exact ⟨k + 1, y2, by omega, by omega, by go_num, by go_num, HY2, inferInstance⟩
      case measure => simp [intOf]; omega
    · obtain rfl : k = l.length := by omega
      obtain rfl : M = y := HM.out.trans HY.out.symm
      have hbs1 := hX.size
      go_wp2
      obtain ⟨w4, hw4⟩ : ∃ w4 : World, w4 = wr.alloc (.cells #[] 3) := ⟨_, rfl⟩
      haveI X4 : Later wb w4 := by rw [hw4]; infer_instance
      try rw [← hw4]
      go_loopw [16, 17, 18] (fun bv lv cv wr => ∃ (c nn cap : Nat) (A : Option Addr) (fp : List Nat), c ≤ M ∧ cv = .int .i64 (c : Int) ∧ lv = .int .i64 (offAtS n (p : Int) l stop c).2 ∧ bv = .slice A nn cap ∧ Hid (OSl 1 oInt wr A nn cap (offAtS n (p : Int) l stop c).1 fp ∧ fp.Nodup ∧ ∀ g, g ∈ fp → w.heap.size ≤ g) ∧ Later wb wr) (fun _ _ cv _ => M - (intOf cv).toNat)
      case atStart => exact ⟨0, 0, 0, _, [], by omega, rfl, rfl, rfl, Lib.hid ⟨OSl.nil_ _, by simp, by simp⟩, inferInstance⟩
      case round =>
        obtain ⟨c, nn, cap, A, fp, hc, rfl, rfl, rfl, HO, hX5⟩ := hrel
        by_cases hcM : c < M
        · obtain ⟨w5, rfl⟩ : ∃ w5 : World, w5 = wr := ⟨_, rfl⟩
          have hLL : (l.map (·.Offset)).length = l.length := by simp
          go_wp2_with (at_builtin; go_loud (refine wpList_app_F (w0 := w5) (base := w5.heap.size) rfl _ _ 71 rfl Try.underlying71 infoPt rfl (by decide) (by decide) rfl (World.ownsRow_lit w5 #[] 0 (Nat.le_refl _) (by simp [maxLen]) rfl) inferInstance (Nat.le_refl _) (by simp) rfl (H2.out.later (hwb2.trans inferInstance)) (by omega) ?_; intro v6 w6 hown6 hX6 hG6; have Y6 := Later.trans (w := wb) inferInstance hX6; have hown7 : w6.ownsRow w5.heap.size 122 2 v6 l.length (l.flatMap encPt) := (by simpa using hown6); obtain ⟨q6, c6, rfl⟩ := own_someP hown7 (by omega); obtain ⟨cs6, hb6, hlo6⟩ := own_blk hown7; have hq6 := hb6.lt))
          obtain ⟨w7, hw7⟩ : ∃ w7 : World, w7 = w6.alloc (.cells (rowA (List.replicate l.length 0)) 3) := ⟨_, rfl⟩
          have hb7 : Blk w7 w6.heap.size 3 (rowA (List.replicate l.length 0)) := by rw [hw7]; exact Blk.new _ _ _
          haveI Z7 : Later w6 w7 := by rw [hw7]; infer_instance
          haveI X7 : Later w5 w7 := hX6.trans Z7
          have hz5 := hX6.size
          rw [← hw7]
          have hmz : mix (List.replicate l.length 0) (l.length - 1) [] = List.replicate l.length (0 : Int) := by have := mix_all (a := List.replicate l.length (0 : Int)); simpa using this
          have hml : mix (l.map (·.Offset)) (l.length - 1) [] = l.map (·.Offset) := by have := mix_all (a := l.map (·.Offset)); simpa using this
          have HH7 := Lib.hid hown7
          clear hown6 hown7 hb6
          go_loopw [21, 22] (fun xv iv wr => ∃ (m x : Nat) (ts : List Int), m < l.length ∧ iv = .int .i64 (m : Int) ∧ xv = .int .i64 (x : Int) ∧ x ≤ c ∧ Hid (BoIn l p c m x ts) ∧ Hid (Blk wr w6.heap.size 3 (rowA (mix (List.replicate l.length 0) m ts))) ∧ Hid (wr.ownsRow w5.heap.size 122 2 (.slice (some ⟨q6, 0, none⟩) l.length c6) l.length ((withO l (mix (l.map (·.Offset)) m ts)).flatMap encPt)) ∧ Later w5 wr) (fun _ iv _ => (intOf iv).toNat)
          case atStart => exact ⟨l.length - 1, c, [], by omega, by first | go_num | (congr 1; omega), rfl, by omega, Lib.hid (BoIn.start hq1), Lib.hid (by rw [hmz]; exact hb7), Lib.hid (by rw [hml, withO_self]; exact ownsRow_later HH7.out Z7), inferInstance⟩
          case round =>
            obtain ⟨m, x, ts, hm, rfl, rfl, hx, HI, HB, HT, hX8⟩ := hrel
            have Y8 := hX5.trans hX8
            by_cases hm0 : 0 < m
            · obtain ⟨b', o', x', hA', hx', hcL, _, _⟩ := Patterns.at_ hP hm
              cases hA'
              have hlm : (mix (List.replicate l.length (0 : Int)) m ts).length = l.length := by rw [mix_len (by rw [List.length_replicate]; exact HI.out.len), List.length_replicate]
              obtain ⟨y0, hy0⟩ : ∃ y, (mix (List.replicate l.length (0 : Int)) m ts)[m]? = some y := ⟨_, List.getElem?_eq_getElem (by omega)⟩
              have hc0 := HB.out.rowAts hy0
              have hf0 : ∀ (i : Nat) (W : World) [Later wr W], W.frozen? ⟨w6.heap.size, i, none⟩ = false := fun i W hW => (HB.out.later hW).frozen i
              obtain ⟨r, hr⟩ : ∃ r : Nat, r = x % p := ⟨_, rfl⟩
              obtain ⟨d, hd⟩ : ∃ d : Nat, d = x / p := ⟨_, rfl⟩
              have hmod : (x : Int) % (p : Int) = (r : Int) := by rw [hr, Int.natCast_emod]
              have hdiv : (x : Int) / (p : Int) = (d : Int) := by rw [hd, Int.natCast_ediv]
              have hmod2 : Int.tmod (x : Int) (p : Int) = (r : Int) := by rw [hr]; rfl
              have hdiv2 : Int.tdiv (x : Int) (p : Int) = (d : Int) := by rw [hd]; rfl
              have hpz : ¬ p = 0 := by omega
              have HI9 := Lib.hid (HI.out.step hp0 hm0)
              rw [← hr, ← hd] at HI9
              have hdc : d ≤ c := by rw [hd]; exact Nat.le_trans (Nat.div_le_self _ _) hx
              clear hr hd hy0
              obtain ⟨w9, hw9⟩ : ∃ w9 : World, w9 = wr.setCell ⟨w6.heap.size, m, none⟩ (.int .i64 (r : Int)) := ⟨_, rfl⟩
              haveI hN6 : New w5 w6.heap.size := ⟨hz5⟩
              haveI X9 : Later w5 w9 := by rw [hw9]; infer_instance
              have Y9 := hX5.trans X9
              haveI hN7 : New w5 q6 := ⟨hlo6⟩
              haveI hN8 : New wb q6 := ⟨Nat.le_trans hX5.size hlo6⟩
              have hq6n : ¬ w6.heap.size = q6 := by omega
              have HB9 : Hid (Blk w9 w6.heap.size 3 (rowA (mix (List.replicate l.length 0) (m - 1) ((r : Int) :: ts)))) := by show Blk _ _ _ _; rw [hw9, ← mix_step (by rw [List.length_replicate]; exact hm) hm0]; exact HB.out.rowSet _
              have HT9 : Hid (w9.ownsRow w5.heap.size 122 2 (.slice (some ⟨q6, 0, none⟩) l.length c6) l.length ((withO l (mix (l.map (·.Offset)) m ts)).flatMap encPt)) := by show World.ownsRow _ _ _ _ _ _ _; rw [hw9]; exact own_set HT.out (fun k hk => by cases hk; show q6 ≠ _; omega) _ _
              have hlm2 : (mix (l.map (·.Offset)) m ts).length = l.length := by rw [mix_len (by rw [hLL]; exact HI.out.len), hLL]
              obtain ⟨y1, hy1⟩ : ∃ y, (withO l (mix (l.map (·.Offset)) m ts))[m]? = some y := ⟨_, List.getElem?_eq_getElem (by rw [withO_len hlm2]; exact hm)⟩
              have hc1 := own_cellF HT9.out (pt_at hy1).1
              have hc2 := own_cellF HT9.out (pt_at hy1).2
              obtain ⟨cs9, hb9, _⟩ := own_blk HT9.out
              have hf9 : ∀ (i : Nat) (W : World) [Later w9 W], W.frozen? ⟨q6, i, none⟩ = false := fun i W hW => (hb9.later hW).frozen i
              clear hy1 hb9
              go_wp2_with fail
              rw [← hw9]
              clear hw9
              refine wp_region_held_drew (S := (fun w' => Later w5 w' ∧ Later wb w')) (by kernel_rfl) (by exact ⟨inferInstance, inferInstance⟩) (fun hHeld => ?_)
              refine wpAnyH_take (i := 0) (v := ?_) (by simp only [List.getElem?_toArray, List.getElem?_cons_zero] <;> rfl) (by kernel_rfl) (by kernel_rfl) (by kernel_rfl) (by exact fun _ _ _ h => h) (Or.inl ⟨by kernel_rfl, ?_⟩) (by assumption) ?_
              rotate_left
              · intro w' hSw; (try dsimp only at hSw); go_simp; try with_reducible rfl
              try simp only [Act.put, List.setIfInBounds_toArray, List.set_cons_zero, List.set_cons_succ]
              refine wpAnyH_take (i := 1) (v := ?_) (by simp only [List.getElem?_toArray, List.getElem?_cons_succ, List.getElem?_cons_zero] <;> rfl) (by kernel_rfl) (by kernel_rfl) (by kernel_rfl) (by exact fun _ _ _ h => h) (Or.inl ⟨by kernel_rfl, ?_⟩) (by assumption) ?_
              rotate_left
              · intro w' hSw; (try dsimp only at hSw); go_simp; try with_reducible rfl
              try simp only [Act.put, List.setIfInBounds_toArray, List.set_cons_zero, List.set_cons_succ]
              refine wpAnyH_take (i := 2) (v := ?_) (by simp only [List.getElem?_toArray, List.getElem?_cons_succ, List.getElem?_cons_zero] <;> rfl) (by kernel_rfl) (by kernel_rfl) (by kernel_rfl) (by exact fun _ _ _ h => h) (Or.inl ⟨by kernel_rfl, ?_⟩) (by assumption) ?_
              rotate_left
              · intro w' hSw; (try dsimp only at hSw); go_simp; try with_reducible rfl
              try simp only [Act.put, List.setIfInBounds_toArray, List.set_cons_zero, List.set_cons_succ]
              refine wpAnyH_take (i := 3) (v := ?_) (by simp only [List.getElem?_toArray, List.getElem?_cons_succ, List.getElem?_cons_zero] <;> rfl) (by kernel_rfl) (by kernel_rfl) (by kernel_rfl) (by exact fun _ _ _ h => h) (Or.inl ⟨by kernel_rfl, ?_⟩) (by assumption) ?_
              rotate_left
              · intro w' hSw; (try dsimp only at hSw); go_simp; try with_reducible rfl
              try simp only [Act.put, List.setIfInBounds_toArray, List.set_cons_zero, List.set_cons_succ]
              refine wpAnyH_take (i := 4) (v := ?_) (by simp only [List.getElem?_toArray, List.getElem?_cons_succ, List.getElem?_cons_zero] <;> rfl) (by kernel_rfl) (by kernel_rfl) (by kernel_rfl) (by exact fun _ _ _ h => h) (Or.inl ⟨by kernel_rfl, ?_⟩) (by assumption) ?_
              rotate_left
              · intro w' hSw; (try dsimp only at hSw); go_simp; try with_reducible rfl
              try simp only [Act.put, List.setIfInBounds_toArray, List.set_cons_zero, List.set_cons_succ]
              refine wpAnyH_take (i := 5) (v := ?_) (by simp only [List.getElem?_toArray, List.getElem?_cons_succ, List.getElem?_cons_zero] <;> rfl) (by kernel_rfl) (by kernel_rfl) (by kernel_rfl) (by exact fun _ _ _ h => h) (Or.inl ⟨by kernel_rfl, ?_⟩) (by assumption) ?_
              rotate_left
              · intro w' hSw; (try dsimp only at hSw); go_simp; try with_reducible rfl
              try simp only [Act.put, List.setIfInBounds_toArray, List.set_cons_zero, List.set_cons_succ]
              refine wpAnyH_take (i := 6) (v := ?_) (by simp only [List.getElem?_toArray, List.getElem?_cons_succ, List.getElem?_cons_zero] <;> rfl) (by kernel_rfl) (by kernel_rfl) (by kernel_rfl) (by exact fun _ _ _ h => h) (Or.inl ⟨by kernel_rfl, ?_⟩) (by assumption) ?_
              rotate_left
              · intro w' hSw; (try dsimp only at hSw); go_simp; try with_reducible rfl
              try simp only [Act.put, List.setIfInBounds_toArray, List.set_cons_zero, List.set_cons_succ]
              refine wpAnyH_take (i := 7) (v := ?_) (by simp only [List.getElem?_toArray, List.getElem?_cons_succ, List.getElem?_cons_zero] <;> rfl) (by kernel_rfl) (by kernel_rfl) (by kernel_rfl) (by exact fun _ _ _ h => h) (Or.inl ⟨by kernel_rfl, ?_⟩) (by assumption) ?_
              rotate_left
              · intro w' hSw; (try dsimp only at hSw); go_simp; try with_reducible rfl
              try simp only [Act.put, List.setIfInBounds_toArray, List.set_cons_zero, List.set_cons_succ]
              refine wpAnyH_take (i := 8) (v := ?_) (by simp only [List.getElem?_toArray, List.getElem?_cons_succ, List.getElem?_cons_zero] <;> rfl) (by kernel_rfl) (by kernel_rfl) (by kernel_rfl) (by exact fun _ _ _ h => h) (Or.inl ⟨by kernel_rfl, ?_⟩) (by assumption) ?_
              rotate_left
              · intro w' hSw; (try dsimp only at hSw); go_simp; try with_reducible rfl
              try simp only [Act.put, List.setIfInBounds_toArray, List.set_cons_zero, List.set_cons_succ]
              refine wpAnyH_take (i := 9) (v := ?_) (by simp only [List.getElem?_toArray, List.getElem?_cons_succ, List.getElem?_cons_zero] <;> rfl) (by kernel_rfl) (by kernel_rfl) (by kernel_rfl) (by exact fun _ _ _ h => h) (Or.inl ⟨by kernel_rfl, ?_⟩) (by assumption) ?_
              rotate_left
              · intro w' hSw; (try dsimp only at hSw); go_simp; try with_reducible rfl
              try simp only [Act.put, List.setIfInBounds_toArray, List.set_cons_zero, List.set_cons_succ]
              refine wpAnyH_take (i := 10) (v := ?_) (by simp only [List.getElem?_toArray, List.getElem?_cons_succ, List.getElem?_cons_zero] <;> rfl) (by kernel_rfl) (by kernel_rfl) (by kernel_rfl) (by exact fun _ _ _ h => h) (Or.inl ⟨by kernel_rfl, ?_⟩) (by assumption) ?_
              rotate_left
              · intro w' hSw; (try dsimp only at hSw); go_simp; try with_reducible rfl
              try simp only [Act.put, List.setIfInBounds_toArray, List.set_cons_zero, List.set_cons_succ]
              refine wpAnyH_take (i := 11) (v := ?_) (by simp only [List.getElem?_toArray, List.getElem?_cons_succ, List.getElem?_cons_zero] <;> rfl) (by kernel_rfl) (by kernel_rfl) (by kernel_rfl) (by exact fun _ _ _ h => h) (Or.inl ⟨by kernel_rfl, ?_⟩) (by assumption) ?_
              rotate_left
              · intro w' hSw; (try dsimp only at hSw); go_simp; try with_reducible rfl
              try simp only [Act.put, List.setIfInBounds_toArray, List.set_cons_zero, List.set_cons_succ]
              refine wpAnyH_ready (rs := [12]) (by kernel_rfl) (by simp) (AllReadyH.cons rfl (fun K hK => ?_) AllReadyH.nil)
              go_simp
              skip
              refine hK.out _ _ (by exact ⟨inferInstance, inferInstance⟩) (fun hHeld => ?_)
              try simp only [Act.put, List.setIfInBounds_toArray, List.set_cons_zero, List.set_cons_succ]
              refine wpAnyH_done (by kernel_rfl) ?_ _
              go_wp2
              go_roundw
              case rel =>
                refine ⟨m - 1, d, (r : Int) :: ts, by omega, by first | go_num | (congr 1; omega), rfl, hdc, HI9, Lib.hid ?_, Lib.hid ?_, inferInstance⟩
                · exact (Blk.far (Blk.far HB9.out (p := ⟨q6, m * 2, none⟩) hq6n _) (p := ⟨q6, m * 2 + 1, none⟩) hq6n _).drew
                · rw [← mix_step (by rw [hLL]; exact hm) hm0]
                  exact ownsRow_later (own_pt HT9.out hlm2 hx'.out) (inferInstance : Later _ (World.drew _))
              case measure => simp [intOf]; omega
            · obtain rfl : m = 0 := by omega
              have hl0 : (l.headD default).Offset = x0.Offset := by
                have h9 := hx0.out
                cases l with
                | nil => simp at hq1
                | cons y l' => simp at h9; rw [h9]; rfl
              have hoc := HI.out.done
              rw [hl0] at hoc
              have hlm : (mix (List.replicate l.length (0 : Int)) 0 ts).length = l.length := by rw [mix_len (by rw [List.length_replicate]; exact HI.out.len), List.length_replicate]
              obtain ⟨y0, hy0⟩ : ∃ y, (mix (List.replicate l.length (0 : Int)) 0 ts)[0]? = some y := ⟨_, List.getElem?_eq_getElem (by omega)⟩
              have hc0 := HB.out.rowAts hy0
              have hf0 : ∀ (i : Nat) (W : World) [Later wr W], W.frozen? ⟨w6.heap.size, i, none⟩ = false := fun i W hW => (HB.out.later hW).frozen i
              obtain ⟨w9, hw9⟩ : ∃ w9 : World, w9 = wr.setCell ⟨w6.heap.size, 0, none⟩ (.int .i64 x0.Offset) := ⟨_, rfl⟩
              haveI hN6 : New w5 w6.heap.size := ⟨hz5⟩
              haveI X9 : Later w5 w9 := by rw [hw9]; infer_instance
              have Y9 := hX5.trans X9
              have HB9 : Hid (Blk w9 w6.heap.size 3 (rowA (offsC l p c))) := by
                show Blk _ _ _ _
                rw [hw9, ← hoc]
                have h9 := HB.out.rowSet (k := 0) x0.Offset
                rw [mix_set (by rw [List.length_replicate]; exact hq1)] at h9
                exact h9
              have HT9 : Hid (w9.ownsRow w5.heap.size 122 2 (.slice (some ⟨q6, 0, none⟩) l.length c6) l.length ((withO l (offsC l p c)).flatMap encPt)) := by
                show World.ownsRow _ _ _ _ _ _ _
                rw [hw9, ← hoc]
                have h9 := own_set HT.out (b := w6.heap.size) (fun k hk => by cases hk; show q6 ≠ _; omega) 0 (.int .i64 x0.Offset)
                have e9 : mix (l.map (·.Offset)) 0 ts = x0.Offset :: ts := by
                  unfold mix
                  rw [List.take_add_one]
                  simp [hx0.out]
                rw [e9] at h9
                exact h9
              have PIN := Lib.hid (offsC_in (c := c) PF.out)
              rw [Int.toNat_natCast] at PIN
              have HS9 := Lib.hid (own_sl (r := rPattern) HT9.out (by rw [withO_len PIN.out.len]) (pat_ok (withO_pat PF.out PIN.out) hnl.out))
              have PF9 := Lib.hid (withO_pat PF.out PIN.out)
              have hne9 : Hid (0 < (gapsO (rests n (p : Int) (withO l (offsC l p c)) stop) (p : Int)).length) := by show 0 < _; rw [gapsO_len, rests_withO hp1 PIN.out.len]; exact hne.out
              have h60 : Hid ((gapsO (rests n (p : Int) (withO l (offsC l p c)) stop) (p : Int)).length ≤ 60) := by show _ ≤ _; rw [gapsO_len]; exact (restsIn PF9.out).len
              have HGP := Lib.hid (gapsO_pos (restsIn (stop := stop) PF9.out) (rests_sorted n (p : Int) (withO l (offsC l p c)) stop))
              have HG : Hid ((big (gapsO (rests n (p : Int) (withO l (offsC l p c)) stop) (p : Int))).1 = gapC n (p : Int) l stop c) := by show _ = _; unfold gapC gapO; rw [Int.toNat_natCast]
              clear hy0 hoc HI HB HT
              haveI hN8 : New wb w6.heap.size := ⟨Nat.le_trans hX5.size hz5⟩
              haveI hL9 : Later w9 (wr.setCell ⟨w6.heap.size, 0, none⟩ (.int .i64 x0.Offset)) := by rw [hw9]; exact Later.rfl_
              have hsz : w.heap.size ≤ w6.heap.size := by have := (hww.trans hX5).size; omega
              clear hw9
              obtain ⟨zz, hzz⟩ : ∃ zz, zz = (offAtS n (p : Int) l stop c).2 := ⟨_, rfl⟩
              rw [← hzz]
              obtain ⟨gc, hgc⟩ : ∃ gc, gc = gapC n (p : Int) l stop c := ⟨_, rfl⟩
              rw [← hgc] at HG
              have HZZ := Lib.hid hzz
              have HGC := Lib.hid hgc
              clear hzz hgc
              by_cases hgl : gc < zz
              · go_wp2_with first
                  | (go_at_call 78; go_loud (refine (spec_l10Rests H.out (hwb0.trans inferInstance) _ HS9.out inferInstance PF9.out stop).mono ?_; rintro e w10 ⟨A3, n3, c3, fp3, rfl, ho3, hnd3, hlo3, L10⟩; have X10 := Later.trans (w := w9) inferInstance L10; have Y10 := Later.trans (w := wb) inferInstance L10; have U10 := Later.trans (w := w5) inferInstance L10; have h3 : Ints w10 A3 n3 c3 (rests n (p : Int) (withO l (offsC l p c)) stop) := ho3.reads; have H3 := Lib.hid h3; clear h3))
                  | (go_at_call 77; go_loud (refine (spec_l10Gaps H3.out inferInstance (restsIn PF9.out)).mono ?_; rintro e w11 ⟨A4, n4, c4, fp4, rfl, ho4, hnd4, hlo4, L11⟩; have X11 := Later.trans (w := w9) inferInstance L11; have Y11 := Later.trans (w := wb) inferInstance L11; have U11 := Later.trans (w := w5) inferInstance L11; have h4 : Ints w11 A4 n4 c4 (gapsO (rests n (p : Int) (withO l (offsC l p c)) stop) (p : Int)) := ho4.reads; have H4 := Lib.hid h4; have hn60 : n4 ≤ 60 := (by rw [h4.len]; exact h60.out); clear h4))
                  | (go_at_call 76; go_loud (refine (spec_l10Largest H4.out inferInstance hn60 hne9.out HGP.out).mono ?_; rw [HG.out]; rintro e w12 ⟨rfl, L12⟩; have X12 := Later.trans (w := w9) inferInstance L12; have Y12 := Later.trans (w := wb) inferInstance L12; have U12 := Later.trans (w := w5) inferInstance L12))
                go_roundw
                case rel =>
                  have hn9 := offAtS_new (n := n) (period := (p : Int)) (l := l) (stop := stop) (c := c) (by rw [← HZZ.out, ← HGC.out]; exact hgl)
                  rw [Int.toNat_natCast, ← HGC.out] at hn9
                  refine ⟨c + 1, l.length, l.length, some ⟨w6.heap.size, 0, none⟩, [w6.heap.size], by omega, by go_num, by rw [hn9], rfl, Lib.hid ?_, inferInstance⟩
                  rw [hn9]
                  refine ⟨(Blk.osl HB9.out PIN.out.len.symm (by omega) (fun v hv => by have := PIN.out.bd v hv; unfold I64; omega)).later X12, by simp, fun g hg => by rcases List.mem_singleton.1 hg with rfl; omega⟩
                case measure => simp [intOf]; omega
              · go_wp2_with first
                  | (go_at_call 78; go_loud (refine (spec_l10Rests H.out (hwb0.trans inferInstance) _ HS9.out inferInstance PF9.out stop).mono ?_; rintro e w10 ⟨A3, n3, c3, fp3, rfl, ho3, hnd3, hlo3, L10⟩; have X10 := Later.trans (w := w9) inferInstance L10; have Y10 := Later.trans (w := wb) inferInstance L10; have U10 := Later.trans (w := w5) inferInstance L10; have h3 : Ints w10 A3 n3 c3 (rests n (p : Int) (withO l (offsC l p c)) stop) := ho3.reads; have H3 := Lib.hid h3; clear h3))
                  | (go_at_call 77; go_loud (refine (spec_l10Gaps H3.out inferInstance (restsIn PF9.out)).mono ?_; rintro e w11 ⟨A4, n4, c4, fp4, rfl, ho4, hnd4, hlo4, L11⟩; have X11 := Later.trans (w := w9) inferInstance L11; have Y11 := Later.trans (w := wb) inferInstance L11; have U11 := Later.trans (w := w5) inferInstance L11; have h4 : Ints w11 A4 n4 c4 (gapsO (rests n (p : Int) (withO l (offsC l p c)) stop) (p : Int)) := ho4.reads; have H4 := Lib.hid h4; have hn60 : n4 ≤ 60 := (by rw [h4.len]; exact h60.out); clear h4))
                  | (go_at_call 76; go_loud (refine (spec_l10Largest H4.out inferInstance hn60 hne9.out HGP.out).mono ?_; rw [HG.out]; rintro e w12 ⟨rfl, L12⟩; have X12 := Later.trans (w := w9) inferInstance L12; have Y12 := Later.trans (w := wb) inferInstance L12; have U12 := Later.trans (w := w5) inferInstance L12))
                go_roundw
                case rel =>
                  have hn9 := offAtS_old (n := n) (period := (p : Int)) (l := l) (stop := stop) (c := c) PF.out (by rw [← HZZ.out, ← HGC.out]; omega)
                  refine ⟨c + 1, nn, cap, A, fp, by omega, by go_num, by rw [hn9, ← HZZ.out], rfl, Lib.hid ?_, inferInstance⟩
                  rw [hn9]
                  exact ⟨HO.out.1.later U12, HO.out.2.1, HO.out.2.2⟩
                case measure => simp [intOf]; omega
        · obtain rfl : c = M := by omega
          go_wp2
          go_ret3
          exact ⟨A, nn, cap, fp, rfl, HO.out.1, HO.out.2.1, HO.out.2.2, hww.trans inferInstance⟩
end Go.Proofs.Ytaopadffabbjiaa
