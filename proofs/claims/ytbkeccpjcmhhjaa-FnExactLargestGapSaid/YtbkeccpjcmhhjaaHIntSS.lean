/-
  Helpers of the statements on slices of slices of numbers: copy, size, equality, marks.
-/
import Derived.Test.YtbkeccpjcmhhjaaNest
import Derived.StillTailTactics
namespace Go.Proofs.Ytbkeccpjcmhhjaa
open Go Go.RowKit
set_option linter.unusedVariables false
set_option maxRecDepth 100000
def sumLen : List (List Int) → Nat
  | [] => 0
  | x :: l => x.length + sumLen l
def totRows (l : List (List Int)) : Nat := l.length + sumLen l
theorem sumLen_drop {l : List (List Int)} {k : Nat} {x : List Int} (h : l[k]? = some x) : sumLen (l.drop k) = x.length + sumLen (l.drop (k + 1)) := by rw [drop_at h]; rfl
theorem sumLen_append (a b : List (List Int)) : sumLen (a ++ b) = sumLen a + sumLen b := by
  induction a with
  | nil => simp [sumLen]
  | cons x a ih => simp only [List.cons_append, sumLen, ih]; omega
theorem len_le_sumLen {l : List (List Int)} {k : Nat} {x : List Int} (h : l[k]? = some x) : x.length ≤ sumLen l := by
  have h1 : sumLen l = sumLen (l.take k) + sumLen (l.drop k) := by rw [← sumLen_append, List.take_append_drop]
  rw [sumLen_drop h] at h1
  omega
abbrev oRows : ORep (List Int) := oSl 1 oInt
theorem info_ints : (Try.prog.info? 111).map (fun i => (i.zero, i.size, i.bytes)) = some (some (.slice none 0 0), 1, 24) := by kernel_rfl
theorem laws_toIntSS {w0 w : World} {A : Option Addr} {n c : Nat} {l : List (List Int)} (h : Rows w0 A n c l) (hl : Later w0 w) (hn : totRows l ≤ 1048576) :
    Calls Try.prog 51 #[.slice A n c] w (RetO 1 oRows l w) := by
  have hn0 : n ≤ 1048576 := by have := h.len; unfold totRows at hn; omega
  obtain ⟨C0, hC0, hmk⟩ := make_row (P := Try.prog) 25 111 Try.underlying25 info_ints n (by omega) (by omega)
  replace h := h.later hl
  go_enter Try.func51, Try.ntmps51
  go_wp2
  go_loopw [4] (fun i wr => ∃ (k : Nat) (cs : Array Value) (fps : List (List Nat)), k ≤ n ∧ i = .int .i64 k ∧ Built 1 oRows w wr w.heap.size 111 l n k cs fps ∧ Later w wr) (fun i _ => n - (intOf i).toNat)
  case atStart => exact ⟨0, C0, [], by omega, rfl, Built.start (Blk.new _ _ _) hC0 (Nat.le_refl _), inferInstance⟩
  case round =>
    obtain ⟨k, cs, fps, hk, rfl, hB, hX⟩ := hrel
    by_cases hlt : k < n
    · obtain ⟨b, o, A1, n1, c1, x, rfl, hx, hc, hi⟩ := Sl.row_ h hlt
      have hn1 : n1 ≤ 1048576 := by have := len_le_sumLen hx.out; have := hi.len; unfold totRows at hn; omega
      go_wp2_with fail
      refine (laws_toIntS hi hX hn1).mono ?_
      rintro e w1 ⟨A2, n2, c2, f, rfl, ho, hnd, hlo, hL⟩
      have hY : Later w w1 := hX.trans hL
      have hB1 := Lib.hid (hB.blk.later hL)
      obtain ⟨v0, hv0⟩ := hB1.out.get (i := k) (by have := hB.size; omega)
      have hf0 := hB1.out.frozen k
      go_wp2
      go_roundw
      case rel =>
        have hs := hB.size
        exact ⟨k + 1, cs.setIfInBounds k (.slice A2 n2 c2), fps ++ [f], by omega, by go_num, hB.step hL hx.out ⟨A2, n2, c2, rfl, ho⟩ hnd hlo (Touch.set_one _ _ _ _) hX (hB1.out.set_ k _) (by simpa using hs) rfl
          (fun i hi => set_ne _ (by omega)) (fun i v hv => by
            match i, hv with
            | 0, hv => simp at hv; subst hv; simpa using set_eq _ (by omega)), inferInstance⟩
      case measure => simp [intOf]; omega
    · go_wp2
      go_ret
      have hkn : k = n := by omega
      exact ⟨_, _, _, _, rfl, hB.done hkn h.len (by omega), hB.nodup, hB.lo, inferInstance⟩
theorem laws_szIntSS {w0 w : World} {A : Option Addr} {n c : Nat} {l : List (List Int)} {left : Int} (h : Rows w0 A n c l) (hl : Later w0 w) (h0 : 0 ≤ left) (h1 : left ≤ 1048576) :
    Calls Try.prog 48 #[.slice A n c, .int .i64 left] w (RetSz (totRows l) left w) := by
  replace h := h.later hl
  have hn := h.le
  have hl := Lib.hid h.len
  go_enter Try.func48, Try.ntmps48
  go_wp2_with fail
  · go_ret
    exact ⟨_, rfl, .inl (by omega), inferInstance⟩
  go_loopw [5, 1] (fun i q wr => ∃ (k : Nat) (r : Int), k ≤ n ∧ i = .int .i64 k ∧ q = .int .i64 r ∧ 0 ≤ r ∧ r ≤ 1048576 ∧ Hid (r - sumLen (l.drop k) = left - totRows l) ∧ Later w wr) (fun i _ _ => n - (intOf i).toNat)
  case atStart => exact ⟨0, left - n, by omega, rfl, rfl, by omega, by omega, by unfold totRows; rw [← hl.out]; show _ = _; simp only [List.drop_zero]; omega, inferInstance⟩
  case round =>
    obtain ⟨k, r, hk, rfl, rfl, hr0, hr1, HF, hX⟩ := hrel
    by_cases hlt : k < n
    · obtain ⟨b, o, A1, n1, c1, x, rfl, hx, hc, hi⟩ := Sl.row_ h hlt
      have hd := Lib.hid (sumLen_drop hx.out)
      have HI := Lib.hid hi
      clear hi
      go_wp2_with fail
      refine (laws_szIntS HI.out hr0 hr1).mono ?_
      rintro e w1 ⟨r1, rfl, hr2, hL⟩
      have hY : Later w w1 := hX.trans hL
      rcases hr2 with hr2 | ⟨hr3, hr4⟩
      · go_wp2
        go_ret
        exact ⟨_, rfl, .inl (by omega), inferInstance⟩
      · have HF2 : Hid (r1 - sumLen (l.drop (k + 1)) = left - totRows l) := by have := HF.out; have := hd.out; show _ = _; omega
        have hr5 : r1 ≤ 1048576 := by omega
        clear hr4
        go_wp2
        go_roundw
        case rel => exact ⟨k + 1, r1, by omega, by go_num, rfl, hr3, hr5, HF2, inferInstance⟩
        case measure => simp [intOf]; omega
    · have HF2 := HF.out
      have hkn : k = n := by omega
      rw [List.drop_eq_nil_of_le (by have := hl.out; omega)] at HF2
      have HF3 : Hid (r + totRows l = left) := by show _ = _; simp only [sumLen] at HF2; omega
      clear HF2
      go_wp2
      go_ret
      exact ⟨_, rfl, .inr ⟨hr0, HF3.out⟩, inferInstance⟩
theorem laws_eqIntSS {w0 w1 w : World} {A B : Option Addr} {n c m d : Nat} {l r : List (List Int)} (h : Rows w0 A n c l) (hl : Later w0 w) (h1 : Rows w1 B m d r) (hl1 : Later w1 w) :
    Calls Try.prog 53 #[.slice A n c, .slice B m d] w (Ret (.bool (decide (l = r))) w) := by
  replace h := h.later hl
  replace h1 := h1.later hl1
  have hn := h.le
  have hm := h1.le
  by_cases hnm : n = m
  · subst hnm
    have hcont : ((n : Int) != n) = false := by simp
    go_enter Try.func53, Try.ntmps53
    go_wp2
    go_loopw [5] (fun i wr => ∃ k : Nat, k ≤ n ∧ i = .int .i64 k ∧ Hid (l.drop k = r.drop k ↔ l = r) ∧ Later w wr) (fun i _ => n - (intOf i).toNat)
    case atStart => exact ⟨0, by omega, rfl, Iff.rfl, inferInstance⟩
    case round =>
      obtain ⟨k, hk, rfl, HF, hX⟩ := hrel
      by_cases hlt : k < n
      · obtain ⟨b, o, A1, n1, c1, x, rfl, hx, hc0, hi⟩ := Sl.row_ h hlt
        obtain ⟨b', o', A2, n2, c2, y, rfl, hy, hc0', hi'⟩ := Sl.row_ h1 hlt
        have hd := drop_at hx.out
        have hd' := drop_at hy.out
        have HI := Lib.hid hi
        have HI' := Lib.hid hi'
        clear hi hi'
        by_cases hxy : x = y
        · have HF2 : Hid (l.drop (k + 1) = r.drop (k + 1) ↔ l = r) := by rw [← HF.out, hd, hd', hxy]; show _ ↔ _; simp
          have hb : decide (x = y) = true := by simpa using hxy
          clear hxy hd hd'
          go_wp2_with fail
          go_still_tail 8, (by kernel_rfl)
          change wpList _ _ _ _ _ wr.drew
          go_wp2_with fail
          refine (laws_eqIntS HI.out inferInstance HI'.out inferInstance).mono ?_
          rintro e w2 ⟨rfl, hL⟩
          have hY := Later.trans (w := w) inferInstance hL
          go_wp2
          go_roundw
          case rel => exact ⟨k + 1, by omega, by go_num, HF2, inferInstance⟩
          case measure => simp [intOf]; omega
        · have HF2 : Hid (l ≠ r) := by rw [hd, hd'] at HF; intro e; have := HF.out.2 e; simp at this; exact hxy this.1
          have hb : decide (x = y) = false := by simpa using hxy
          clear hxy hd hd'
          go_wp2_with fail
          go_still_tail 8, (by kernel_rfl)
          change wpList _ _ _ _ _ wr.drew
          go_wp2_with fail
          refine (laws_eqIntS HI.out inferInstance HI'.out inferInstance).mono ?_
          rintro e w2 ⟨rfl, hL⟩
          have hY := Later.trans (w := w) inferInstance hL
          go_wp2
          go_ret
          exact ⟨ret_bool (by rw [decide_eq_false HF2.out]), inferInstance⟩
      · have H2 : Hid (l = r) := by
          rw [List.drop_eq_nil_of_le (by have := h.len; omega), List.drop_eq_nil_of_le (by have := h1.len; omega)] at HF
          exact HF.out.1 rfl
        go_wp2
        go_ret
        exact ⟨ret_bool (by rw [decide_eq_true H2.out]), inferInstance⟩
  · have H2 : Hid (l ≠ r) := by intro e; apply hnm; rw [h.len, h1.len, e]
    have hb : ((n : Int) != m) = true := by rw [bne_iff_ne]; omega
    clear hnm
    go_enter Try.func53, Try.ntmps53
    go_wp2
    go_ret
    exact ⟨ret_bool (by rw [decide_eq_false H2.out]), inferInstance⟩
def mkRows : Int → List (List Int) → List (List Int)
  | _, [] => []
  | k, x :: l => mkInts k x.length :: mkRows (k + x.length) l
theorem mkRows_len (k : Int) (l : List (List Int)) : (mkRows k l).length = l.length := by
  induction l generalizing k with
  | nil => rfl
  | cons x l ih => simp [mkRows, ih]
theorem laws_markIntSS {w : World} {A : Option Addr} {n c : Nat} {l : List (List Int)} {fp : List Nat} {k0 : Int} (h : OSl 1 oRows w A n c l fp) (hnd : fp.Nodup) (h0 : 0 ≤ k0) (h1 : k0 + sumLen l ≤ 4611686018427387904) :
    Calls Try.prog 56 #[.slice A n c, .int .i64 k0] w (RetMk (k0 + sumLen l) fp (fun w' => OSl 1 oRows w' A n c (mkRows k0 l) fp) w) := by
  have hn : n ≤ 9223372036854775807 := Nat.le_trans h.cap h.max
  go_enter Try.func56, Try.ntmps56
  go_wp2
  go_loopw [1, 5] (fun q i wr => ∃ (k : Nat) (r : Int) (cur : List (List Int)), k ≤ n ∧ i = .int .i64 k ∧ q = .int .i64 r ∧ 0 ≤ r ∧ Hid (r + sumLen (l.drop k) = k0 + sumLen l) ∧ Hid (cur.drop k = l.drop k ∧ cur.take k ++ mkRows r (l.drop k) = mkRows k0 l) ∧ OSl 1 oRows wr A n c cur fp ∧ Touch fp w wr) (fun _ i _ => n - (intOf i).toNat)
  case atStart => exact ⟨0, k0, l, by omega, rfl, rfl, h0, rfl, ⟨rfl, by simp⟩, h, Touch.refl_⟩
  case round =>
    obtain ⟨k, r, cur, hk, rfl, rfl, hr0, HF, HD, ho, hT⟩ := hrel
    by_cases hlt : k < n
    · have hlen := ho.len
      have hcl : k < cur.length := by omega
      have hx : cur[k]? = some cur[k] := List.getElem?_eq_getElem hcl
      generalize cur[k] = x at hx
      have hlx : l[k]? = some x := by
        have h2 : (cur.drop k)[0]? = some x := by simpa using hx
        rw [HD.out.1] at h2; simpa using h2
      obtain ⟨g, o, t, cs, es, f, rfl, hB, hgf, hgn, hfs, hfn, hes, hcs, ⟨A1, n1, c1, rfl, hro⟩, hset⟩ := ho.elem hnd hx
      have hc : wr.cell? ⟨g, o + k, none⟩ = some (.slice A1 n1 c1) := by rw [hB.cell]; simpa using hcs 0 _ rfl
      have hxl := hro.len
      have hsd := sumLen_drop hlx
      have HS := Lib.hid hset
      have Hx := Lib.hid hx
      have Hlx := Lib.hid hlx
      have HB := Lib.hid hB
      have hb1 : r + (n1 : Int) ≤ 4611686018427387904 := by have := HF.out; omega
      have HF2 : Hid (r + n1 + sumLen (l.drop (k + 1)) = k0 + sumLen l) := by have := HF.out; show _ = _; omega
      have Hxl := Lib.hid hxl
      clear hset hx hlx hB hxl hsd hlen hcs
      go_wp2_with fail
      refine (laws_markIntS hro hr0 hb1).mono ?_
      rintro e w1 ⟨rfl, T1, o1⟩
      have o2 := HS.out w1 cs [.slice A1 n1 c1] (mkInts r n1) (T1.mono fun b hb => List.mem_cons_of_mem _ hb) ((T1.block g HB.out.lt hgn).trans HB.out) (fun _ _ => rfl) rfl (fun j v hv => by
        match j, hv with
        | 0, hv =>
          simp at hv; subst hv
          have := HB.out.cell (o + k)
          rw [hc] at this
          simpa using this.symm) ⟨A1, n1, c1, rfl, o1⟩
      have T2 := hT.trans (T1.mono hfs)
      clear T1 o1
      go_wp2
      go_roundw
      case rel =>
        refine ⟨k + 1, r + n1, cur.set k (mkInts r n1), by omega, by go_num, rfl, by omega, HF2, ⟨?_, ?_⟩, o2, T2⟩
        · have h3 := HD.out.1
          rw [drop_at Hx.out, drop_at Hlx.out] at h3
          rw [List.drop_set_of_lt (by omega)]
          exact (List.cons.inj h3).2
        · have h3 := HD.out.2
          rw [drop_at Hlx.out] at h3
          rw [← h3, List.take_set, List.take_succ_eq_append_getElem hcl, List.set_append_right _ _ (by simp; omega)]
          simp [mkRows, ← Hxl.out, Nat.min_eq_left (Nat.le_of_lt hcl)]
      case measure => simp [intOf]; omega
    · have hkn : k = n := by omega
      have hlen := ho.len
      have hll := h.len
      have H3 : Hid (r = k0 + sumLen l ∧ cur = mkRows k0 l) := by
        have h3 := HF.out
        have h4 := HD.out.2
        rw [List.drop_eq_nil_of_le (by omega)] at h3 h4
        refine ⟨by simpa [sumLen] using h3, ?_⟩
        rw [← h4, List.take_of_length_le (by omega)]
        simp [mkRows]
      clear hlen hll
      go_wp2
      go_ret
      obtain ⟨h3, h4⟩ := H3
      subst h4
      exact ⟨ret_int h3, hT, ho⟩
theorem laws_heldIntSS {w0 w : World} {A : Option Addr} {n c : Nat} {m : List (List Int)} {k0 : Int} (h : Rows w0 A n c (mkRows k0 m)) (hl : Later w0 w) (h0 : 0 ≤ k0) (h1 : k0 + sumLen m ≤ 4611686018427387904) :
    Calls Try.prog 57 #[.slice A n c, .int .i64 k0] w (Ret (.int .i64 (k0 + sumLen m)) w) := by
  replace h := h.later hl
  have hn := h.le
  have hlen := h.len
  rw [mkRows_len] at hlen
  have Hlen := Lib.hid hlen
  clear hlen
  go_enter Try.func57, Try.ntmps57
  go_wp2
  go_loopw [1, 5] (fun q i wr => ∃ (k : Nat) (r : Int), k ≤ n ∧ i = .int .i64 k ∧ q = .int .i64 r ∧ 0 ≤ r ∧ Hid (r + sumLen (m.drop k) = k0 + sumLen m ∧ (mkRows k0 m).drop k = mkRows r (m.drop k)) ∧ Later w wr) (fun _ i _ => n - (intOf i).toNat)
  case atStart => exact ⟨0, k0, by omega, rfl, rfl, h0, ⟨rfl, rfl⟩, inferInstance⟩
  case round =>
    obtain ⟨k, r, hk, rfl, rfl, hr0, HF, hX⟩ := hrel
    by_cases hlt : k < n
    · obtain ⟨b, o, A1, n1, c1, x, rfl, hx, hc, hi⟩ := Sl.row_ h hlt
      have hkm : k < m.length := by have := Hlen.out; omega
      obtain ⟨y, hy⟩ : ∃ y, m[k]? = some y := ⟨_, List.getElem?_eq_getElem hkm⟩
      have h3 := HF.out.2
      rw [drop_at hx.out, drop_at hy] at h3
      obtain ⟨h4, h5⟩ := List.cons.inj h3
      subst h4
      have hsd := sumLen_drop hy
      have hb1 : r + (y.length : Int) ≤ 4611686018427387904 := by have := HF.out.1; omega
      have HF2 : Hid (r + y.length + sumLen (m.drop (k + 1)) = k0 + sumLen m ∧ (mkRows k0 m).drop (k + 1) = mkRows (r + y.length) (m.drop (k + 1))) := ⟨by have := HF.out.1; omega, h5⟩
      have HI := Lib.hid hi
      clear h3 h5 hsd hy hi
      go_wp2_with fail
      refine (laws_heldIntS HI.out hX hr0 hb1).mono ?_
      rintro e w1 ⟨rfl, hL⟩
      have hY : Later w w1 := hX.trans hL
      go_wp2
      go_roundw
      case rel => exact ⟨k + 1, r + y.length, by omega, by go_num, rfl, by omega, HF2, inferInstance⟩
      case measure => simp [intOf]; omega
    · have H3 : Hid (r = k0 + sumLen m) := by
        have h3 := HF.out.1
        rw [List.drop_eq_nil_of_le (by have := Hlen.out; omega)] at h3
        exact (by simpa [sumLen] using h3 : r = k0 + sumLen m)
      go_wp2
      go_ret
      exact ⟨ret_int H3.out, inferInstance⟩
end Go.Proofs.Ytbkeccpjcmhhjaa
