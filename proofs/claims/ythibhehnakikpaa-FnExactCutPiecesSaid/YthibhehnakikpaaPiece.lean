/-
  Pieces: equality of lists of numbers, a part of a slice, whether a list is a piece.
-/
import Derived.Test.YthibhehnakikpaaDutyP
import Derived.Deep.RegionHeld3
namespace Go.Proofs.Ythibhehnakikpaa
open Go Go.RowKit
set_option linter.unusedVariables false
set_option maxRecDepth 100000
theorem Sl.sub_ {α : Type} {r : Rep α} {w : World} {b o : Nat} {n c : Nat} {l : List α} (h : Sl 1 r w (some ⟨b, o, none⟩) n c l) {k m : Nat} (hk : k + m ≤ n) : Sl 1 r w (some ⟨b, o + k, none⟩) m (c - k) ((l.drop k).take m) := by
  have h1 := h.len
  have h2 := h.cap
  have h3 := h.max
  refine ⟨by rw [List.length_take, List.length_drop]; omega, by omega, by omega, fun j x hx => ?_⟩
  rw [List.getElem?_take] at hx
  split at hx
  · rw [List.getElem?_drop] at hx
    obtain ⟨b', o', es, ha, he, hc, hr⟩ := h.el (k + j) x hx
    cases ha
    exact ⟨b, o + k, es, rfl, he, fun i v hv => by have := hc i v hv; rw [show o + k + j * 1 + i = o + (k + j) * 1 + i by omega]; exact this, hr⟩
  · cases hx
theorem slices_EqualInts
  {w0 w1 w : World} {A B : Option Addr} {n c m d : Nat} {l r : List Int} (h : Ints w0 A n c l) (hl : Later w0 w) (h1 : Ints w1 B m d r) (hl1 : Later w1 w) :
    Calls Try.prog 83 #[.slice A n c, .slice B m d] w (Ret (.bool (decide (l = r))) w) := by
  replace h := h.later hl
  replace h1 := h1.later hl1
  have hn := h.le
  have hm := h1.le
  by_cases hnm : n = m
  · subst hnm
    have hcont : ((n : Int) != n) = false := by simp
    go_enter Try.func83, Try.ntmps83
    go_wp2
    go_loopw [13] (fun i wr => ∃ k : Nat, k ≤ n ∧ i = .int .i64 k ∧ Hid (l.drop k = r.drop k ↔ l = r) ∧ Later w wr) (fun i _ => n - (intOf i).toNat)
    case atStart => exact ⟨0, by omega, rfl, Iff.rfl, inferInstance⟩
    case round =>
      obtain ⟨k, hk, rfl, HF, hX⟩ := hrel
      by_cases hlt : k < n
      · obtain ⟨b, o, x, rfl, hx, hc, hi⟩ := Ints.at_ h hlt
        obtain ⟨b', o', y, rfl, hy, hc', hi'⟩ := Ints.at_ h1 hlt
        have hd := drop_at hx.out
        have hd' := drop_at hy.out
        by_cases hxy : x = y
        · have HF2 : Hid (l.drop (k + 1) = r.drop (k + 1) ↔ l = r) := by rw [← HF.out, hd, hd', hxy]; show _ ↔ _; simp
          have hb : (x != y) = false := by simpa using hxy
          clear hxy hd hd'
          go_wp2
          go_quiet (fail)
          go_wp2
          go_roundw
          case rel => exact ⟨k + 1, by omega, by go_num, HF2, inferInstance⟩
          case measure => simp [intOf]; omega
        · have HF2 : Hid (l ≠ r) := by rw [hd, hd'] at HF; intro e; have := HF.out.2 e; simp at this; exact hxy this.1
          have hb : (x != y) = true := by simpa using hxy
          clear hxy hd hd'
          go_wp2
          go_quiet (fail)
          go_wp2
          go_ret
          exact ⟨ret_bool (by rw [decide_eq_false HF2.out]), inferInstance⟩
      · have H2 : Hid (l = r) := by
          rw [List.drop_eq_nil_of_le (by have := h.len; omega), List.drop_eq_nil_of_le (by have := h1.len; omega)] at HF
          exact HF.out.1 rfl
        go_wp2
        go_ret
        exact ⟨ret_bool (by rw [decide_eq_true H2.out]), inferInstance⟩
  · have H2 : Hid (l ≠ r) := by intro e; apply hnm; rw [h.len, h1.len, e]
    have hb : ((n : Int) != m) = true := by rw [bne_iff_ne]; omega
    clear hnm
    go_enter Try.func83, Try.ntmps83
    go_wp2
    go_ret
    exact ⟨ret_bool (by rw [decide_eq_false H2.out]), inferInstance⟩
theorem spec_l1Same
  {w0 w1 w : World} {A B : Option Addr} {n c m d : Nat} {l r : List Int} (h : Ints w0 A n c l) (hl : Later w0 w) (h1 : Ints w1 B m d r) (hl1 : Later w1 w) :
    Calls Try.prog 78 #[.slice A n c, .slice B m d] w (Ret (.bool (decide (l = r))) w) := by
  replace h := h.later hl
  replace h1 := h1.later hl1
  have hn := h.le
  have hm := h1.le
  by_cases hnm : n = m
  · subst hnm
    have hcont : ((n : Int) != n) = false := by simp
    go_enter Try.func78, Try.ntmps78
    go_wp2
    go_loopw [5] (fun i wr => ∃ k : Nat, k ≤ n ∧ i = .int .i64 k ∧ Hid (l.drop k = r.drop k ↔ l = r) ∧ Later w wr) (fun i _ => n - (intOf i).toNat)
    case atStart => exact ⟨0, by omega, rfl, Iff.rfl, inferInstance⟩
    case round =>
      obtain ⟨k, hk, rfl, HF, hX⟩ := hrel
      by_cases hlt : k < n
      · obtain ⟨b, o, x, rfl, hx, hc, hi⟩ := Ints.at_ h hlt
        obtain ⟨b', o', y, rfl, hy, hc', hi'⟩ := Ints.at_ h1 hlt
        have hd := drop_at hx.out
        have hd' := drop_at hy.out
        by_cases hxy : x = y
        · have HF2 : Hid (l.drop (k + 1) = r.drop (k + 1) ↔ l = r) := by rw [← HF.out, hd, hd', hxy]; show _ ↔ _; simp
          have hb : (x != y) = false := by simpa using hxy
          clear hxy hd hd'
          go_wp2
          go_quiet (fail)
          go_wp2
          go_roundw
          case rel => exact ⟨k + 1, by omega, by go_num, HF2, inferInstance⟩
          case measure => simp [intOf]; omega
        · have HF2 : Hid (l ≠ r) := by rw [hd, hd'] at HF; intro e; have := HF.out.2 e; simp at this; exact hxy this.1
          have hb : (x != y) = true := by simpa using hxy
          clear hxy hd hd'
          go_wp2
          go_quiet (fail)
          go_wp2
          go_ret
          exact ⟨ret_bool (by rw [decide_eq_false HF2.out]), inferInstance⟩
      · have H2 : Hid (l = r) := by
          rw [List.drop_eq_nil_of_le (by have := h.len; omega), List.drop_eq_nil_of_le (by have := h1.len; omega)] at HF
          exact HF.out.1 rfl
        go_wp2
        go_ret
        exact ⟨ret_bool (by rw [decide_eq_true H2.out]), inferInstance⟩
  · have H2 : Hid (l ≠ r) := by intro e; apply hnm; rw [h.len, h1.len, e]
    have hb : ((n : Int) != m) = true := by rw [bne_iff_ne]; omega
    clear hnm
    go_enter Try.func78, Try.ntmps78
    go_wp2
    go_ret
    exact ⟨ret_bool (by rw [decide_eq_false H2.out]), inferInstance⟩
theorem pieceOk_no1 {bs : List (List Int)} {v : Int} {p : List Int} (h : ¬ 0 ≤ (placeOf 0 v bs).1) : pieceOk bs (v :: p) = false := by
  simp only [pieceOk]; rw [decide_eq_false h]; rfl
theorem cutOf_of {bs : List (List Int)} {v : Int} {m j n : Nat} {x : List Int} (h : placeOf 0 v bs = ((m : Int), (j : Int))) (hx : bs[m]? = some x) : cutOf bs v n = (x.drop j).take n := by
  unfold cutOf; rw [h]; simp only [blkI_of hx, Int.toNat_natCast]
theorem pieceOk_no2 {bs : List (List Int)} {v : Int} {p : List Int} {m j : Nat} {x : List Int} (h : placeOf 0 v bs = ((m : Int), (j : Int))) (hx : bs[m]? = some x) (hn : x.length < j + (p.length + 1)) : pieceOk bs (v :: p) = false := by
  simp only [pieceOk]
  rw [cutOf_of h hx, decide_eq_false (p := _ = _), Bool.and_false]
  intro e
  have := congrArg List.length e
  simp at this
  omega
theorem pieceOk_yes {bs : List (List Int)} {v : Int} {p : List Int} {m j : Nat} {x : List Int} (h : placeOf 0 v bs = ((m : Int), (j : Int))) (hx : bs[m]? = some x) : pieceOk bs (v :: p) = decide ((x.drop j).take (p.length + 1) = v :: p) := by
  simp only [pieceOk]
  rw [cutOf_of h hx, h]
  simp
set_option maxHeartbeats 1000000 in
theorem impl_isPiece {w w3 w4 : World} {bA : Option Addr} {bn bc : Nat} {bs : List (List Int)} (h3 : Sl 1 (rSl 1 rInt) w3 bA bn bc bs) (hl3 : Later w3 w) (hb3 : ∀ x, x ∈ bs → x.length ≤ 1048576) {pA : Option Addr} {pn pc : Nat} {p : List Int} (h4 : Ints w4 pA pn pc p) (hl4 : Later w4 w) (hpl : p.length ≤ 1048576) :
    Calls Try.prog 50 #[.slice bA bn bc, .slice pA pn pc] w (Ret (.bool (pieceOk bs p)) w) := by
  have hB := h3.later hl3
  have hP := h4.later hl4
  have hbl := hB.le
  have hpn : pn ≤ 1048576 := by rw [hP.len]; exact hpl
  cases p with
  | nil =>
    obtain rfl : pn = 0 := hP.len
    clear hP hB h3 h4
    go_enter Try.func50, Try.ntmps50
    go_wp2
    go_ret
    exact ⟨rfl, inferInstance⟩
  | cons v p =>
    have Hpl : Hid (pn = p.length + 1) := by show _ = _; have := hP.len; simpa using this
    have hp0 : 0 < pn := by rw [Hpl.out]; omega
    have e0 := (beqi_f (show ¬ (pn : Int) = 0 by omega)).1
    obtain ⟨b1, o1, v', rfl, hv, hcv, _⟩ := Ints.at_ hP hp0
    obtain rfl : v = v' := by simpa using hv.out
    simp only [Nat.add_zero] at hcv
    have HB := Lib.hid hB
    have HP := Lib.hid hP
    clear hP hv h3 h4
    by_cases c0 : 0 ≤ (placeOf 0 v bs).1
    rotate_left
    · have c0d : (placeOf 0 v bs).1 < 0 := by have := placeOf_any v bs; omega
      have HR := Lib.hid (pieceOk_no1 (p := p) c0)
      have c1 : ¬ 0 ≤ (placeOf 0 v bs).1 := by omega
      have c2 : decide (0 ≤ (placeOf 0 v bs).1) = false := decide_eq_false c1
      clear hB c0
      go_enter Try.func50, Try.ntmps50
      go_wp2_with (go_at_call 72; refine (impl_placeIn HB.out inferInstance v).mono ?_; rintro e w5 ⟨rfl, L5⟩)
      go_ret
      exact ⟨ret_bool HR.out.symm, inferInstance⟩
    obtain ⟨m, j, x, hpo, hx, hj⟩ := placeOf_at c0
    have hpd : placeOf 0 v bs = ((m : Int), (j : Int)) := by rcases placeOf_any v bs with ⟨h1, _⟩ | ⟨_, h2⟩ <;> first | exact hpo | (rw [h2]; exact hpo) | omega
    have hmn : m < bn := by rw [hB.len]; exact (List.getElem?_eq_some_iff.1 hx).1
    obtain ⟨b, o, A1, n1, cc1, x', rfl, hx', hc0, hi⟩ := Sl.row_ hB hmn
    obtain rfl : x' = x := Option.some.inj (hx'.out.symm.trans hx)
    have hxl := hb3 x' (List.mem_of_getElem? hx)
    have hjx := (List.getElem?_eq_some_iff.1 hj).1
    have Hi := Lib.hid hi
    have Hxl := Lib.hid hi.len
    have hn1 : n1 ≤ 1048576 := by rw [hi.len]; exact hxl
    have hjn : j < n1 := by rw [hi.len]; exact hjx
    have hcap := hi.cap
    have hwj : IntKind.i64.wrap ((j : Int) + (pn : Int)) = ((j + pn : Nat) : Int) := by rw [IntKind.wrap_i64]; omega
    have HPD := Lib.hid hpd
    by_cases c1 : j + pn ≤ n1
    · have HR := Lib.hid (pieceOk_yes (p := p) hpo hx)
      obtain ⟨bb, oo, yy, rfl, _, _, _⟩ := Ints.at_ hi hjn
      have HS := Lib.hid (Sl.sub_ hi c1)
      have c1i : ((j + pn : Nat) : Int) ≤ (n1 : Int) := by omega
      have c2i : (j : Int) + (pn : Int) ≤ (cc1 : Int) := by omega
      have c3i : (j : Int) ≤ (j : Int) + (pn : Int) := by omega
      clear hB hx hx' hj hpo hpd hi c0 hxl hjx
      rw [HR.out, ← Hpl.out]
      go_enter Try.func50, Try.ntmps50
      go_wp2_with first
        | (go_at_call 72; refine (impl_placeIn HB.out inferInstance v).mono ?_; rw [HPD.out]; rintro e w5 ⟨rfl, L5⟩)
        | (go_at_call 83; refine (slices_EqualInts HS.out inferInstance HP.out inferInstance).mono ?_; rintro e w6 ⟨rfl, L6⟩; have L7 := Later.trans (w := w) inferInstance L6)
      go_ret
      exact ⟨rfl, inferInstance⟩
    · have HR := Lib.hid (pieceOk_no2 (p := p) hpo hx (by rw [← Hxl.out, ← Hpl.out]; omega))
      have c1i : ¬ (((j + pn : Nat) : Int) ≤ (n1 : Int)) := by omega
      have c1d : decide (((j + pn : Nat) : Int) ≤ (n1 : Int)) = false := decide_eq_false c1i
      clear hB hx hx' hj hpo hpd hi c0 hxl hjx
      go_enter Try.func50, Try.ntmps50
      go_wp2_with (go_at_call 72; refine (impl_placeIn HB.out inferInstance v).mono ?_; rw [HPD.out]; rintro e w5 ⟨rfl, L5⟩)
      go_ret
      exact ⟨ret_bool HR.out.symm, inferInstance⟩
set_option maxHeartbeats 1000000 in
theorem spec_l12Piece {w w3 w4 : World} {bA : Option Addr} {bn bc : Nat} {bs : List (List Int)} (h3 : Sl 1 (rSl 1 rInt) w3 bA bn bc bs) (hl3 : Later w3 w) (hb3 : ∀ x, x ∈ bs → x.length ≤ 1048576) {pA : Option Addr} {pn pc : Nat} {p : List Int} (h4 : Ints w4 pA pn pc p) (hl4 : Later w4 w) (hpl : p.length ≤ 1048576) :
    Calls Try.prog 46 #[.slice bA bn bc, .slice pA pn pc] w (Ret (.bool (pieceOk bs p)) w) := by
  have hB := h3.later hl3
  have hP := h4.later hl4
  have hbl := hB.le
  have hpn : pn ≤ 1048576 := by rw [hP.len]; exact hpl
  cases p with
  | nil =>
    obtain rfl : pn = 0 := hP.len
    clear hP hB h3 h4
    go_enter Try.func46, Try.ntmps46
    go_wp2
    go_ret
    exact ⟨rfl, inferInstance⟩
  | cons v p =>
    have Hpl : Hid (pn = p.length + 1) := by show _ = _; have := hP.len; simpa using this
    have hp0 : 0 < pn := by rw [Hpl.out]; omega
    have e0 := (beqi_f (show ¬ (pn : Int) = 0 by omega)).1
    obtain ⟨b1, o1, v', rfl, hv, hcv, _⟩ := Ints.at_ hP hp0
    obtain rfl : v = v' := by simpa using hv.out
    simp only [Nat.add_zero] at hcv
    have HB := Lib.hid hB
    have HP := Lib.hid hP
    clear hP hv h3 h4
    by_cases c0 : 0 ≤ (placeOf 0 v bs).1
    rotate_left
    · have c0d : (placeOf (-1) v bs).1 < 0 := by have := placeOf_any v bs; omega
      have HR := Lib.hid (pieceOk_no1 (p := p) c0)
      have c1 : ¬ 0 ≤ (placeOf (-1) v bs).1 := by omega
      have c2 : decide (0 ≤ (placeOf (-1) v bs).1) = false := decide_eq_false c1
      clear hB c0
      go_enter Try.func46, Try.ntmps46
      go_wp2_with (go_at_call 70; refine (spec_l11Place HB.out inferInstance v).mono ?_; rintro e w5 ⟨rfl, L5⟩)
      go_ret
      exact ⟨ret_bool HR.out.symm, inferInstance⟩
    obtain ⟨m, j, x, hpo, hx, hj⟩ := placeOf_at c0
    have hpd : placeOf (-1) v bs = ((m : Int), (j : Int)) := by rcases placeOf_any v bs with ⟨h1, _⟩ | ⟨_, h2⟩ <;> first | exact hpo | (rw [h2]; exact hpo) | omega
    have hmn : m < bn := by rw [hB.len]; exact (List.getElem?_eq_some_iff.1 hx).1
    obtain ⟨b, o, A1, n1, cc1, x', rfl, hx', hc0, hi⟩ := Sl.row_ hB hmn
    obtain rfl : x' = x := Option.some.inj (hx'.out.symm.trans hx)
    have hxl := hb3 x' (List.mem_of_getElem? hx)
    have hjx := (List.getElem?_eq_some_iff.1 hj).1
    have Hi := Lib.hid hi
    have Hxl := Lib.hid hi.len
    have hn1 : n1 ≤ 1048576 := by rw [hi.len]; exact hxl
    have hjn : j < n1 := by rw [hi.len]; exact hjx
    have hcap := hi.cap
    have hwj : IntKind.i64.wrap ((j : Int) + (pn : Int)) = ((j + pn : Nat) : Int) := by rw [IntKind.wrap_i64]; omega
    have HPD := Lib.hid hpd
    by_cases c1 : j + pn ≤ n1
    · have HR := Lib.hid (pieceOk_yes (p := p) hpo hx)
      obtain ⟨bb, oo, yy, rfl, _, _, _⟩ := Ints.at_ hi hjn
      have HS := Lib.hid (Sl.sub_ hi c1)
      have c1i : ((j + pn : Nat) : Int) ≤ (n1 : Int) := by omega
      have c2i : (j : Int) + (pn : Int) ≤ (cc1 : Int) := by omega
      have c3i : (j : Int) ≤ (j : Int) + (pn : Int) := by omega
      clear hB hx hx' hj hpo hpd hi c0 hxl hjx
      rw [HR.out, ← Hpl.out]
      go_enter Try.func46, Try.ntmps46
      go_wp2_with first
        | (go_at_call 70; refine (spec_l11Place HB.out inferInstance v).mono ?_; rw [HPD.out]; rintro e w5 ⟨rfl, L5⟩)
        | (go_at_call 78; refine (spec_l1Same HS.out inferInstance HP.out inferInstance).mono ?_; rintro e w6 ⟨rfl, L6⟩; have L7 := Later.trans (w := w) inferInstance L6)
      go_ret
      exact ⟨rfl, inferInstance⟩
    · have HR := Lib.hid (pieceOk_no2 (p := p) hpo hx (by rw [← Hxl.out, ← Hpl.out]; omega))
      have c1i : ¬ (((j + pn : Nat) : Int) ≤ (n1 : Int)) := by omega
      have c1d : decide (((j + pn : Nat) : Int) ≤ (n1 : Int)) = false := decide_eq_false c1i
      clear hB hx hx' hj hpo hpd hi c0 hxl hjx
      go_enter Try.func46, Try.ntmps46
      go_wp2_with (go_at_call 70; refine (spec_l11Place HB.out inferInstance v).mono ?_; rw [HPD.out]; rintro e w5 ⟨rfl, L5⟩)
      go_ret
      exact ⟨ret_bool HR.out.symm, inferInstance⟩
end Go.Proofs.Ythibhehnakikpaa
