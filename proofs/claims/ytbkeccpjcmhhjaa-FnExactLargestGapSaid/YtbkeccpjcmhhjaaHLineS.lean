/-
  Helpers of the statements on slices of lines: copy, size, equality; marks on slices of strings and of lines.
-/
import Derived.Test.YtbkeccpjcmhhjaaHLine
import Derived.Test.YtbkeccpjcmhhjaaMarkText
namespace Go.Proofs.Ytbkeccpjcmhhjaa
open Go Go.RowKit
set_option linter.unusedVariables false
set_option maxRecDepth 100000
def sumLine : List Line → Nat
  | [] => 0
  | x :: l => totLine x + sumLine l
def totLines (l : List Line) : Nat := l.length + sumLine l
theorem sumLine_drop {l : List Line} {k : Nat} {x : Line} (h : l[k]? = some x) : sumLine (l.drop k) = totLine x + sumLine (l.drop (k + 1)) := by rw [drop_at h]; rfl
theorem sumLine_append (a b : List Line) : sumLine (a ++ b) = sumLine a + sumLine b := by
  induction a with
  | nil => simp [sumLine]
  | cons x a ih => simp only [List.cons_append, sumLine, ih]; omega
theorem tot_le_sumLine {l : List Line} {k : Nat} {x : Line} (h : l[k]? = some x) : totLine x ≤ sumLine l := by
  have h1 : sumLine l = sumLine (l.take k) + sumLine (l.drop k) := by rw [← sumLine_append, List.take_append_drop]
  rw [sumLine_drop h] at h1
  omega
theorem info_Line : (Try.prog.info? 142).map (fun i => (i.zero, i.size, i.bytes)) = some (some (.agg #[.string ByteArray.empty, .slice none 0 0, .slice none 0 0]), 3, 64) := by kernel_rfl
theorem laws_toLineS {w0 w : World} {A : Option Addr} {n c : Nat} {l : List Line} (h : Lines w0 A n c l) (hl : Later w0 w) (hn : totLines l ≤ 1048576) :
    Calls Try.prog 111 #[.slice A n c] w (RetO 3 oLine l w) := by
  have hn0 : n ≤ 1048576 := by have := h.len; unfold totLines at hn; omega
  obtain ⟨C0, hC0, hmk⟩ := make_row (P := Try.prog) 48 142 Try.underlying48 info_Line n (by omega) (by omega)
  replace h := h.later hl
  go_enter Try.func111, Try.ntmps111
  go_wp2
  go_loopw [4] (fun i wr => ∃ (k : Nat) (cs : Array Value) (fps : List (List Nat)), k ≤ n ∧ i = .int .i64 k ∧ Built 3 oLine w wr w.heap.size 142 l n k cs fps ∧ Later w wr) (fun i _ => n - (intOf i).toNat)
  case atStart => exact ⟨0, C0, [], by omega, rfl, Built.start (Blk.new _ _ _) hC0 (Nat.le_refl _), inferInstance⟩
  case round =>
    obtain ⟨k, cs, fps, hk, rfl, hB, hX⟩ := hrel
    by_cases hlt : k < n
    · obtain ⟨b, o, xA0, xn0, xc0, xA1, xn1, xc1, x, rfl, hx, hc0, hc1, hc2, hi⟩ := Lines.at_ h hlt
      have hn1 : totLine x ≤ 1048576 := by have := tot_le_sumLine hx.out; unfold totLines at hn; omega
      go_wp2_with fail
      refine (laws_toLine hi hX hn1).mono ?_
      rintro e w1 ⟨A0, n0, c0, A1, n1, c1, f0, f1, rfl, ho, hnd, hlo, hL⟩
      have hY : Later w w1 := hX.trans hL
      have hB1 := Lib.hid (hB.blk.later hL)
      have hz := hB.size
      obtain ⟨v0, hv0⟩ := hB1.out.get (i := k * 3) (by omega)
      obtain ⟨v1, hv1⟩ := hB1.out.get (i := k * 3 + 1) (by omega)
      obtain ⟨v2, hv2⟩ := hB1.out.get (i := k * 3 + 2) (by omega)
      have hf0 := hB1.out.frozen (k * 3)
      have hf1 := hB1.out.frozen (k * 3 + 1)
      have hf2 := hB1.out.frozen (k * 3 + 2)
      have Hz := Lib.hid hz
      clear hz
      go_wp2
      go_roundw
      case rel =>
        have hs := hB.size
        refine ⟨k + 1, ((cs.setIfInBounds (k * 3) (.string x.Name)).setIfInBounds (k * 3 + 1) (.slice A0 n0 c0)).setIfInBounds (k * 3 + 2) (.slice A1 n1 c1), fps ++ [f0 ++ f1], by omega, by go_num,
          hB.step hL hx.out ⟨A0, n0, c0, A1, n1, c1, f0, f1, rfl, ho, rfl⟩ hnd hlo (((Touch.refl_.set_ (by simp) _ _).set_ (by simp) _ _).set_ (by simp) _ _) hX (((hB1.out.set_ _ _).set_ _ _).set_ _ _) (by simpa using hs) rfl
          (fun i hi => by rw [set_ne _ (by omega), set_ne _ (by omega), set_ne _ (by omega)]) (fun i v hv => ?_), inferInstance⟩
        match i, hv with
        | 0, hv => simp at hv; subst hv; rw [set_ne _ (by omega), set_ne _ (by omega)]; exact set_eq _ (by omega)
        | 1, hv => simp at hv; subst hv; rw [set_ne _ (by omega)]; exact set_eq _ (by simp; omega)
        | 2, hv => simp at hv; subst hv; exact set_eq _ (by simp; omega)
      case measure => simp [intOf]; omega
    · go_wp2
      go_ret
      have hkn : k = n := by omega
      exact ⟨_, _, _, _, rfl, hB.done hkn h.len (by omega), hB.nodup, hB.lo, inferInstance⟩
theorem laws_szLineS {w0 w : World} {A : Option Addr} {n c : Nat} {l : List Line} {left : Int} (h : Lines w0 A n c l) (hl : Later w0 w) (h0 : 0 ≤ left) (h1 : left ≤ 1048576) :
    Calls Try.prog 106 #[.slice A n c, .int .i64 left] w (RetSz (totLines l) left w) := by
  replace h := h.later hl
  have hn := h.le
  have hl := Lib.hid h.len
  go_enter Try.func106, Try.ntmps106
  go_wp2_with fail
  · go_ret
    exact ⟨_, rfl, .inl (by omega), inferInstance⟩
  go_loopw [5, 1] (fun i q wr => ∃ (k : Nat) (r : Int), k ≤ n ∧ i = .int .i64 k ∧ q = .int .i64 r ∧ 0 ≤ r ∧ r ≤ 1048576 ∧ Hid (r - sumLine (l.drop k) = left - totLines l) ∧ Later w wr) (fun i _ _ => n - (intOf i).toNat)
  case atStart => exact ⟨0, left - n, by omega, rfl, rfl, by omega, by omega, by unfold totLines; rw [← hl.out]; show _ = _; simp only [List.drop_zero]; omega, inferInstance⟩
  case round =>
    obtain ⟨k, r, hk, rfl, rfl, hr0, hr1, HF, hX⟩ := hrel
    by_cases hlt : k < n
    · obtain ⟨b, o, xA0, xn0, xc0, xA1, xn1, xc1, x, rfl, hx, hc0, hc1, hc2, hi⟩ := Lines.at_ h hlt
      have hd := Lib.hid (sumLine_drop hx.out)
      have HI := Lib.hid hi
      clear hi
      go_wp2_with fail
      refine (laws_szLine HI.out hX hr0 hr1).mono ?_
      rintro e w1 ⟨r1, rfl, hr2, hL⟩
      have hY : Later w w1 := hX.trans hL
      rcases hr2 with hr2 | ⟨hr3, hr4⟩
      · go_wp2
        go_ret
        exact ⟨_, rfl, .inl (by omega), inferInstance⟩
      · have HF2 : Hid (r1 - sumLine (l.drop (k + 1)) = left - totLines l) := by have := HF.out; have := hd.out; show _ = _; omega
        have hr5 : r1 ≤ 1048576 := by omega
        clear hr4
        go_wp2
        go_roundw
        case rel => exact ⟨k + 1, r1, by omega, by go_num, rfl, hr3, hr5, HF2, inferInstance⟩
        case measure => simp [intOf]; omega
    · have HF2 := HF.out
      have hkn : k = n := by omega
      rw [List.drop_eq_nil_of_le (by have := hl.out; omega)] at HF2
      have HF3 : Hid (r + totLines l = left) := by show _ = _; simp only [sumLine] at HF2; omega
      clear HF2
      go_wp2
      go_ret
      exact ⟨_, rfl, .inr ⟨hr0, HF3.out⟩, inferInstance⟩
theorem laws_eqLineS {w0 w1 w : World} {A B : Option Addr} {n c m d : Nat} {l r : List Line} (h : Lines w0 A n c l) (hl : Later w0 w) (h1 : Lines w1 B m d r) (hl1 : Later w1 w) :
    Calls Try.prog 117 #[.slice A n c, .slice B m d] w (Ret (.bool (decide (l = r))) w) := by
  replace h := h.later hl
  replace h1 := h1.later hl1
  have hn := h.le
  have hm := h1.le
  by_cases hnm : n = m
  · subst hnm
    have hcont : ((n : Int) != n) = false := by simp
    go_enter Try.func117, Try.ntmps117
    go_wp2
    go_loopw [5] (fun i wr => ∃ k : Nat, k ≤ n ∧ i = .int .i64 k ∧ Hid (l.drop k = r.drop k ↔ l = r) ∧ Later w wr) (fun i _ => n - (intOf i).toNat)
    case atStart => exact ⟨0, by omega, rfl, Iff.rfl, inferInstance⟩
    case round =>
      obtain ⟨k, hk, rfl, HF, hX⟩ := hrel
      by_cases hlt : k < n
      · obtain ⟨b, o, xA0, xn0, xc0, xA1, xn1, xc1, x, rfl, hx, hc0, hc1, hc2, hi⟩ := Lines.at_ h hlt
        obtain ⟨b', o', yA0, yn0, yc0, yA1, yn1, yc1, y, rfl, hy, hc0', hc1', hc2', hi'⟩ := Lines.at_ h1 hlt
        have hd := drop_at hx.out
        have hd' := drop_at hy.out
        have HI := Lib.hid hi
        have HI' := Lib.hid hi'
        clear hi hi'
        by_cases hxy : x = y
        · have HF2 : Hid (l.drop (k + 1) = r.drop (k + 1) ↔ l = r) := by rw [← HF.out, hd, hd', hxy]; show _ ↔ _; simp
          have hb : decide (x = y) = true := by simpa using hxy
          clear hxy hd hd'
          go_wp2_with fail
          go_still_tail 8, (by kernel_rfl)
          change wpList _ _ _ _ _ wr.drew
          go_wp2_with fail
          refine (laws_eqLine HI.out inferInstance HI'.out inferInstance).mono ?_
          rintro e w2 ⟨rfl, hL⟩
          have hY := Later.trans (w := w) inferInstance hL
          go_wp2
          go_roundw
          case rel => exact ⟨k + 1, by omega, by go_num, HF2, inferInstance⟩
          case measure => simp [intOf]; omega
        · have HF2 : Hid (l ≠ r) := by rw [hd, hd'] at HF; intro e; have := HF.out.2 e; simp at this; exact hxy this.1
          have hb : decide (x = y) = false := by simpa using hxy
          clear hxy hd hd'
          go_wp2_with fail
          go_still_tail 8, (by kernel_rfl)
          change wpList _ _ _ _ _ wr.drew
          go_wp2_with fail
          refine (laws_eqLine HI.out inferInstance HI'.out inferInstance).mono ?_
          rintro e w2 ⟨rfl, hL⟩
          have hY := Later.trans (w := w) inferInstance hL
          go_wp2
          go_ret
          exact ⟨ret_bool (by rw [decide_eq_false HF2.out]), inferInstance⟩
      · have H2 : Hid (l = r) := by
          rw [List.drop_eq_nil_of_le (by have := h.len; omega), List.drop_eq_nil_of_le (by have := h1.len; omega)] at HF
          exact HF.out.1 rfl
        go_wp2
        go_ret
        exact ⟨ret_bool (by rw [decide_eq_true H2.out]), inferInstance⟩
  · have H2 : Hid (l ≠ r) := by intro e; apply hnm; rw [h.len, h1.len, e]
    have hb : ((n : Int) != m) = true := by rw [bne_iff_ne]; omega
    clear hnm
    go_enter Try.func117, Try.ntmps117
    go_wp2
    go_ret
    exact ⟨ret_bool (by rw [decide_eq_false H2.out]), inferInstance⟩
theorem laws_markStringS {w : World} {A : Option Addr} {n c : Nat} {l : List ByteArray} {fp : List Nat} {k0 : Int} (h : OSl 1 oStr w A n c l fp) (h0 : 0 ≤ k0) (h1 : k0 + n ≤ 4611686018427387904) :
    Calls Try.prog 181 #[.slice A n c, .int .i64 k0] w (RetMk (k0 + n) fp (fun w' => True) w) := by
  have hn : n ≤ 9223372036854775807 := Nat.le_trans h.cap h.max
  have Hh := Lib.hid h
  rcases h.own with ⟨rfl, rfl⟩ | ⟨g, o, t, cs0, fps, rfl, hB0, rfl, hfl, hel⟩
  · obtain rfl : n = 0 := Hh.out.len
    clear h
    go_enter Try.func181, Try.ntmps181
    go_wp2
    go_loop [1, 5] (fun q i => i = .int .i64 0 ∧ q = .int .i64 k0) (fun q i => 0)
    case atStart => exact ⟨rfl, rfl⟩
    case round =>
      obtain ⟨rfl, rfl⟩ := hrel
      go_wp2
      go_ret
      exact ⟨ret_int (by simp), Touch.refl_, trivial⟩
  · have hlen := Lib.hid h.len
    have HC : Hid (∀ j, j < n → ∃ v, cs0[o + j]? = some v) := fun j hj => by
      obtain ⟨es, f, _, he, hc, _⟩ := hel j l[j]?.get! (by rw [List.getElem?_eq_getElem (by have := hlen.out; omega)]; rfl)
      match es, he with
      | [v], _ => exact ⟨v, by simpa using hc 0 v rfl⟩
    have HB0 := Lib.hid hB0
    have Hglt := hB0.lt
    clear h hel hB0 hfl
    go_enter Try.func181, Try.ntmps181
    go_wp2
    go_loopw [1, 5] (fun q i wr => ∃ (k : Nat) (cs : Array Value), k ≤ n ∧ i = .int .i64 k ∧ q = .int .i64 (k0 + k) ∧ Blk wr g t cs ∧ cs.size = cs0.size ∧ Touch (g :: fps.flatten) w wr) (fun _ i _ => n - (intOf i).toNat)
    case atStart => exact ⟨0, cs0, by omega, rfl, by simp, HB0.out, rfl, Touch.refl_⟩
    case round =>
      obtain ⟨k, cs, hk, rfl, rfl, hB, hsz, hX⟩ := hrel
      have HB := Lib.hid hB
      have Hsz := Lib.hid hsz
      by_cases hlt : k < n
      · have hok : o + k < cs.size := by
          obtain ⟨v, hv⟩ := HC.out k hlt
          have := (Array.getElem?_eq_some_iff.1 hv).1
          have := Hsz.out
          omega
        clear hB hsz
        go_wp2_with fail
        refine (laws_markText (k0 + k) (by omega) (by omega) _).mono ?_
        rintro e w1 ⟨s, rfl, hs, L1⟩
        have HB1 := Lib.hid (HB.out.later L1)
        obtain ⟨v0, hv0⟩ := HB1.out.get (i := o + k) hok
        have hfz := HB1.out.frozen (o + k)
        have hX1 := hX.trans (Touch.of_later L1)
        go_wp2
        go_roundw
        case rel => exact ⟨k + 1, cs.setIfInBounds (o + k) (.string s), by omega, by go_num, by go_num, HB1.out.set_ _ _, by have := Hsz.out; simpa using this, hX1.set_ (by simp) _ _⟩
        case measure => simp [intOf]; omega
      · have hkn : k = n := by omega
        clear hB hsz
        go_wp2
        go_ret
        subst hkn
        exact ⟨rfl, hX, trivial⟩
def cntLines : List Line → Nat
  | [] => 0
  | x :: l => 1 + x.Stops.length + x.Runs.length + cntLines l
def cntStrs (l : List ByteArray) : Nat := l.length
theorem cntLines_drop {l : List Line} {k : Nat} {x : Line} (h : l[k]? = some x) : cntLines (l.drop k) = 1 + x.Stops.length + x.Runs.length + cntLines (l.drop (k + 1)) := by rw [drop_at h]; rfl
theorem laws_markLineS {w : World} {A : Option Addr} {n c : Nat} {l : List Line} {fp : List Nat} {k0 : Int} (h : OSl 3 oLine w A n c l fp) (hnd : fp.Nodup) (h0 : 0 ≤ k0) (h1 : k0 + cntLines l ≤ 4611686018427387904) :
    Calls Try.prog 182 #[.slice A n c, .int .i64 k0] w (RetMk (k0 + cntLines l) fp (fun w' => True) w) := by
  have hn : n ≤ 9223372036854775807 := Nat.le_trans h.cap h.max
  go_enter Try.func182, Try.ntmps182
  go_wp2
  go_loopw [1, 5] (fun q i wr => ∃ (k : Nat) (r : Int) (cur : List Line), k ≤ n ∧ i = .int .i64 k ∧ q = .int .i64 r ∧ 0 ≤ r ∧ Hid (r + cntLines (l.drop k) = k0 + cntLines l) ∧ Hid (cur.drop k = l.drop k) ∧ OSl 3 oLine wr A n c cur fp ∧ Touch fp w wr) (fun _ i _ => n - (intOf i).toNat)
  case atStart => exact ⟨0, k0, l, by omega, rfl, rfl, h0, rfl, rfl, h, Touch.refl_⟩
  case round =>
    obtain ⟨k, r, cur, hk, rfl, rfl, hr0, HF, HD, ho, hT⟩ := hrel
    by_cases hlt : k < n
    · have hlen := ho.len
      have hcl : k < cur.length := by omega
      have hx : cur[k]? = some cur[k] := List.getElem?_eq_getElem hcl
      generalize cur[k] = x at hx
      have hlx : l[k]? = some x := by
        have h2 : (cur.drop k)[0]? = some x := by simpa using hx
        rw [HD.out] at h2; simpa using h2
      obtain ⟨g, o, t, cs, es, f, rfl, hB, hgf, hgn, hfs, hfn, hes, hcs, ⟨A0, n0, c0, A1, n1, c1, f0, f1, rfl, hro, rfl⟩, hset⟩ := ho.elem hnd hx
      have hsd := cntLines_drop hlx
      have hl0 := hro.l_Stops.len
      have hl1 := hro.l_Runs.len
      have hb0 : r + 1 + (n0 : Int) + n1 + cntLines (l.drop (k + 1)) ≤ 4611686018427387904 := by have := HF.out; omega
      have HF2 : Hid (r + 1 + n0 + n1 + cntLines (l.drop (k + 1)) = k0 + cntLines l) := by have := HF.out; show _ = _; omega
      have hb1 : r + 1 + (n0 : Int) + n1 ≤ 4611686018427387904 := by omega
      have HS := Lib.hid hset
      have Hx := Lib.hid hx
      have Hlx := Lib.hid hlx
      have HB := Lib.hid hB
      have q0 : cs[o + k * 3]? = some (.string x.Name) := by simpa using hcs 0 _ rfl
      have q1 : cs[o + k * 3 + 1]? = some (.slice A0 n0 c0) := by simpa using hcs 1 _ rfl
      have q2 : cs[o + k * 3 + 2]? = some (.slice A1 n1 c1) := by simpa using hcs 2 _ rfl
      have hz : o + k * 3 + 2 < cs.size := (Array.getElem?_eq_some_iff.1 q2).1
      obtain ⟨nd0, nd1, dj⟩ := List.nodup_append.1 hfn
      have g0 : g ∉ f0 := fun hh => hgn (List.mem_append_left _ hh)
      have g1 : g ∉ f1 := fun hh => hgn (List.mem_append_right _ hh)
      have HQ := Lib.hid (And.intro q0 (And.intro q1 q2))
      have Hro := Lib.hid hro
      clear hset hx hlx hB hsd hlen hcs hl0 hl1 q0 q1 q2 hro hb0
      go_wp2_with fail
      refine (laws_markText r hr0 (by omega) _).mono ?_
      rintro e w1 ⟨s, rfl, hs, L1⟩
      have HB1 := Lib.hid (HB.out.later L1)
      have hv0 := (HB1.out.cell (o + k * 3)).trans HQ.out.1
      have hfz := HB1.out.frozen (o + k * 3)
      have o0 := (Hro.out.l_Stops.later L1).setc g0 (o + k * 3) (.string s)
      have o1 := (Hro.out.l_Runs.later L1).setc g1 (o + k * 3) (.string s)
      have B2 := Lib.hid (HB1.out.set_ (o + k * 3) (.string s))
      have hv1 := (B2.out.cell (o + k * 3 + 1)).trans ((set_ne _ (by omega)).trans HQ.out.2.1)
      have T2 : Touch (g :: (f0 ++ f1)) wr (w1.setCell ⟨g, o + k * 3, none⟩ (.string s)) := (Touch.of_later L1).set_ (by simp) _ _
      go_wp2_with fail
      refine (laws_markIntS o0 (by omega) (by omega)).mono ?_
      rintro e w2 ⟨rfl, T3, p0⟩
      have B3 := Lib.hid (T3.blk B2.out g0)
      have o1' := o1.touch T3 (fun b hb hh => dj b hh b hb rfl)
      have hv2 := (B3.out.cell (o + k * 3 + 2)).trans ((set_ne _ (by omega)).trans HQ.out.2.2)
      go_wp2_with fail
      refine (laws_markIntS o1' (by omega) (by omega)).mono ?_
      rintro e w3 ⟨rfl, T4, p1⟩
      have B4 := Lib.hid (T4.blk B3.out g1)
      have p0' := p0.touch T4 (fun b hb hh => dj b hb b hh rfl)
      have T5 : Touch (g :: (f0 ++ f1)) wr w3 := (T2.trans (T3.mono fun b hb => List.mem_cons_of_mem _ (List.mem_append_left _ hb))).trans (T4.mono fun b hb => List.mem_cons_of_mem _ (List.mem_append_right _ hb))
      have o5 := HS.out w3 (cs.setIfInBounds (o + k * 3) (.string s)) [.string s, .slice A0 n0 c0, .slice A1 n1 c1] ⟨s, mkInts (r + 1) n0, mkInts (r + 1 + n0) n1⟩ T5 B4.out (fun i hi => set_ne _ (by omega)) rfl (fun j v hv => by
        match j, hv with
        | 0, hv => simp at hv; subst hv; exact set_eq _ (by omega)
        | 1, hv => simp at hv; subst hv; exact (set_ne _ (by omega)).trans HQ.out.2.1
        | 2, hv => simp at hv; subst hv; exact (set_ne _ (by omega)).trans HQ.out.2.2) ⟨A0, n0, c0, A1, n1, c1, f0, f1, rfl, ⟨by simp only [maxLen]; omega, p0', p1⟩, rfl⟩
      have T6 := hT.trans (T5.mono fun b hb => by
        rcases List.mem_cons.1 hb with rfl | hb
        · exact hgf
        · exact hfs b hb)
      clear o0 o1 o1' p0 p0' p1 T5 T4 T3 T2 hv0 hv1 hv2 L1
      go_wp2
      go_roundw
      case rel =>
        refine ⟨k + 1, r + 1 + n0 + n1, cur.set k _, by omega, by go_num, rfl, by omega, HF2, ?_, o5, T6⟩
        have h3 := HD.out
        rw [drop_at Hx.out, drop_at Hlx.out] at h3
        show _ = _
        rw [List.drop_set_of_lt (by omega)]
        exact (List.cons.inj h3).2
      case measure => simp [intOf]; omega
    · have H3 : Hid (r = k0 + cntLines l) := by
        have h3 := HF.out
        have hll := h.len
        rw [List.drop_eq_nil_of_le (by omega)] at h3
        exact (by simpa [cntLines] using h3 : r = k0 + cntLines l)
      go_wp2
      go_ret
      exact ⟨ret_int H3.out, hT, trivial⟩
end Go.Proofs.Ytbkeccpjcmhhjaa
