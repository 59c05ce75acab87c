/-
 Networks: names and places.
 Networks: lines, and when a network is valid.
 Networks: the reference's lines, and when a network is valid.
 Networks: when one is valid; sums of running times.
 cmp.Compare and cmp.Or on numbers.
-/
import Derived.Test.YtknhebakebmlcaaGreatKa
import Derived.Deep.RegionHeld3
namespace Go.Proofs.YtknhebakebmlcaaGreat
open Go Go.RowKit
set_option linter.unusedVariables false
set_option maxRecDepth 100000
theorem okChar_low {k : Nat} {b : UInt8} (h1 : 97 ≤ (b.toNat : Int)) (h2 : (b.toNat : Int) ≤ 122) : okChar k b = true := by simp [okChar, isLow]; omega
theorem okChar_dig {k : Nat} {b : UInt8} (h0 : 0 < k) (h1 : 48 ≤ (b.toNat : Int)) (h2 : (b.toNat : Int) ≤ 57) : okChar k b = true := by simp [okChar, isLow, isDig]; omega
theorem okChar_no {k : Nat} {b : UInt8} (h1 : (b.toNat : Int) < 97 ∨ 122 < (b.toNat : Int)) (h2 : k = 0 ∨ (b.toNat : Int) < 48 ∨ 57 < (b.toNat : Int)) : okChar k b = false := by simp [okChar, isLow, isDig]; omega
theorem impl_isName (s : ByteArray) (hs : s.size ≤ 9223372036854775807) (w : World) : Calls Tryz.prog 184 #[.string s] w (RetS (.bool (okName s)) w) := by
 by_cases h1 : s.size < 1
 ·have HN : Hid (okName s = false) := by show _ = _; unfold okName; rw [decide_eq_false (by omega)]; rfl
  go_enter Tryz.func184, Tryz.ntmps184
  go_wp2
  go_ret
  exact ⟨ret_bool HN.out.symm, rfl⟩
 by_cases h2 : 8 < s.size
 ·have HN : Hid (okName s = false) := by show _ = _; unfold okName; rw [decide_eq_false (by omega)]; rfl
  go_enter Tryz.func184, Tryz.ntmps184
  go_wp2
  go_ret
  exact ⟨ret_bool HN.out.symm, rfl⟩
 have h3 : s.size ≤ 8 := by omega
 have h4 : 1 ≤ s.size := by omega
 have HN : Hid (okName s = allFrom okChar s.data.toList 0) := by show _ = _; unfold okName; rw [decide_eq_true (by omega)]; rfl
 clear h1 h2
 go_enter Tryz.func184, Tryz.ntmps184
 go_wp2
 go_loop [15] (fun i => ∃ k : Nat, k ≤ s.size ∧ i = .int .i64 k ∧ Hid (allFrom okChar (s.data.toList.drop k) k = allFrom okChar s.data.toList 0)) (fun i => s.size - (intOf i).toNat)
 case atStart => exact ⟨0, by omega, rfl, rfl⟩
 case round =>
  obtain ⟨k, hk, rfl, HF⟩ := hrel
  by_cases hlt : k < s.size
  ·have HF1 : Hid (allFrom okChar s.data.toList 0 = (okChar k s[k] && allFrom okChar (s.data.toList.drop (k + 1)) (k + 1))) := by rw [← HF.out, drop_at (bytes_at hlt)]; rfl
   clear HF
   by_cases c1 : 97 ≤ (s[k].toNat : Int)
   ·by_cases c2 : (s[k].toNat : Int) ≤ 122
    ·have HG := okChar_low (k := k) c1 c2
     have HF2 : Hid (allFrom okChar (s.data.toList.drop (k + 1)) (k + 1) = allFrom okChar s.data.toList 0) := by rw [HF1.out, HG, Bool.true_and]; rfl
     clear HF1 HG
     go_wp2
     go_round
     case rel => exact ⟨k + 1, by omega, by go_num, HF2⟩
     case measure => simp [intOf]; omega
    ·by_cases k0 : k = 0
     ·subst k0
      have HG := okChar_no (k := 0) (b := s[0]) (.inr (by omega)) (.inl rfl)
      have HF2 : Hid (okName s = false) := by show _ = _; unfold okName; rw [HF1.out, HG]; simp
      clear HF1 HG
      go_wp2
      go_ret
      exact ⟨ret_bool HF2.out.symm, rfl⟩
     ·have k1 : ((k : Int) == 0) = false := by simp; omega
      have c3 : 57 < (s[k].toNat : Int) := by omega
      have c4 : ¬ (s[k].toNat : Int) < 48 := by omega
      have HG := okChar_no (k := k) (b := s[k]) (.inr (by omega)) (.inr (.inr (by omega)))
      have HF2 : Hid (okName s = false) := by show _ = _; unfold okName; rw [HF1.out, HG]; simp
      clear HF1 HG
      go_wp2
      go_ret
      exact ⟨ret_bool HF2.out.symm, rfl⟩
   ·by_cases k0 : k = 0
    ·subst k0
     have HG := okChar_no (k := 0) (b := s[0]) (.inl (by omega)) (.inl rfl)
     have HF2 : Hid (okName s = false) := by show _ = _; unfold okName; rw [HF1.out, HG]; simp
     clear HF1 HG
     go_wp2
     go_ret
     exact ⟨ret_bool HF2.out.symm, rfl⟩
    ·have k1 : ((k : Int) == 0) = false := by simp; omega
     by_cases c3 : (s[k].toNat : Int) < 48
     ·have HG := okChar_no (k := k) (b := s[k]) (.inl (by omega)) (.inr (.inl (by omega)))
      have HF2 : Hid (okName s = false) := by show _ = _; unfold okName; rw [HF1.out, HG]; simp
      clear HF1 HG
      go_wp2
      go_ret
      exact ⟨ret_bool HF2.out.symm, rfl⟩
     ·by_cases c4 : (s[k].toNat : Int) ≤ 57
      ·have HG := okChar_dig (k := k) (b := s[k]) (by omega) (by omega) c4
       have HF2 : Hid (allFrom okChar (s.data.toList.drop (k + 1)) (k + 1) = allFrom okChar s.data.toList 0) := by rw [HF1.out, HG, Bool.true_and]; rfl
       clear HF1 HG
       go_wp2
       go_round
       case rel => exact ⟨k + 1, by omega, by go_num, HF2⟩
       case measure => simp [intOf]; omega
      ·have HG := okChar_no (k := k) (b := s[k]) (.inl (by omega)) (.inr (.inr (by omega)))
       have HF2 : Hid (okName s = false) := by show _ = _; unfold okName; rw [HF1.out, HG]; simp
       clear HF1 HG
       go_wp2
       go_ret
       exact ⟨ret_bool HF2.out.symm, rfl⟩
  ·have HF2 : Hid (okName s = true) := by show _ = _; rw [HN.out, ← HF.out, List.drop_eq_nil_of_le (by simp; omega)]; rfl
   clear HF
   go_wp2
   go_ret
   exact ⟨ret_bool HF2.out.symm, rfl⟩

theorem spec_l2Name (s : ByteArray) (hs : s.size ≤ 9223372036854775807) (w : World) : Calls Tryz.prog 150 #[.string s] w (RetS (.bool (okName s)) w) := by
 by_cases hb : 1 ≤ s.size ∧ s.size ≤ 8
 rotate_left
 ·have HN : Hid (okName s = false) := by show _ = _; unfold okName; rw [decide_eq_false hb]; rfl
  have hb0 : inB s.size 1 8 = false := by rw [inB_f]; omega
  clear hb
  go_enter Tryz.func150, Tryz.ntmps150
  go_wp2_with (go_at_call 87; refine (spec_l1In _ _ _ _).mono ?_; rintro e w' ⟨rfl, rfl⟩)
  go_ret
  exact ⟨ret_bool HN.out.symm, rfl⟩
 have HN : Hid (okName s = allFrom okChar s.data.toList 0) := by show _ = _; unfold okName; rw [decide_eq_true hb]; rfl
 have h3 := hb.1
 have h4 := hb.2
 have hb0 : inB s.size 1 8 = true := by rw [inB_t]; omega
 clear hb
 have H0 : Hid (allFrom okChar s.data.toList 0 = (okChar 0 s[0] && allFrom okChar (s.data.toList.drop 1) 1)) := by
  show _ = _
  rw [show s.data.toList = s.data.toList.drop 0 from rfl, drop_at (bytes_at (show 0 < s.size by omega))]; rfl
 by_cases c1 : 97 ≤ (s[0].toNat : Int)
 rotate_left
 ·have hg := okChar_no (k := 0) (b := s[0]) (.inl (by omega)) (.inl rfl)
  have HN2 : Hid (okName s = false) := by show _ = _; rw [HN.out, H0.out, hg]; rfl
  clear hg H0
  go_enter Tryz.func150, Tryz.ntmps150
  go_wp2_with (go_at_call 87; refine (spec_l1In _ _ _ _).mono ?_; rintro e w' ⟨rfl, rfl⟩)
  go_ret
  exact ⟨ret_bool HN2.out.symm, rfl⟩
 by_cases c2 : (s[0].toNat : Int) ≤ 122
 rotate_left
 ·have hg := okChar_no (k := 0) (b := s[0]) (.inr (by omega)) (.inl rfl)
  have HN2 : Hid (okName s = false) := by show _ = _; rw [HN.out, H0.out, hg]; rfl
  clear hg H0
  go_enter Tryz.func150, Tryz.ntmps150
  go_wp2_with (go_at_call 87; refine (spec_l1In _ _ _ _).mono ?_; rintro e w' ⟨rfl, rfl⟩)
  go_ret
  exact ⟨ret_bool HN2.out.symm, rfl⟩
 clear H0
 go_enter Tryz.func150, Tryz.ntmps150
 go_wp2_with (go_at_call 87; refine (spec_l1In _ _ _ _).mono ?_; rintro e w' ⟨rfl, rfl⟩)
 go_loop [3] (fun i => ∃ k : Nat, k ≤ s.size ∧ i = .int .i64 k ∧ Hid (allFrom okChar (s.data.toList.drop k) k = allFrom okChar s.data.toList 0)) (fun i => s.size - (intOf i).toNat)
 case atStart => exact ⟨0, by omega, rfl, rfl⟩
 case round =>
  obtain ⟨k, hk, rfl, HF⟩ := hrel
  by_cases hlt : k < s.size
  ·have HF1 : Hid (allFrom okChar s.data.toList 0 = (okChar k s[k] && allFrom okChar (s.data.toList.drop (k + 1)) (k + 1))) := by rw [← HF.out, drop_at (bytes_at hlt)]; rfl
   clear HF
   by_cases d1 : 97 ≤ (s[k].toNat : Int)
   ·by_cases d2 : (s[k].toNat : Int) ≤ 122
    ·have HG := okChar_low (k := k) d1 d2
     have HF2 : Hid (allFrom okChar (s.data.toList.drop (k + 1)) (k + 1) = allFrom okChar s.data.toList 0) := by rw [HF1.out, HG, Bool.true_and]; rfl
     clear HF1 HG
     go_wp2
     go_round
     case rel => exact ⟨k + 1, by omega, by go_num, HF2⟩
     case measure => simp [intOf]; omega
    ·have k0 : 0 < k := Nat.pos_of_ne_zero fun e => by subst e; omega
     have c3 : 57 < (s[k].toNat : Int) := by omega
     have c4 : ¬ (s[k].toNat : Int) < 48 := by omega
     have HG := okChar_no (k := k) (b := s[k]) (.inr (by omega)) (.inr (.inr (by omega)))
     have HF2 : Hid (okName s = false) := by show _ = _; unfold okName; rw [HF1.out, HG]; simp
     clear HF1 HG
     go_wp2
     go_ret
     exact ⟨ret_bool HF2.out.symm, rfl⟩
   ·have k0 : 0 < k := Nat.pos_of_ne_zero fun e => by subst e; omega
    by_cases c3 : (s[k].toNat : Int) < 48
    ·have HG := okChar_no (k := k) (b := s[k]) (.inl (by omega)) (.inr (.inl (by omega)))
     have HF2 : Hid (okName s = false) := by show _ = _; unfold okName; rw [HF1.out, HG]; simp
     clear HF1 HG
     go_wp2
     go_ret
     exact ⟨ret_bool HF2.out.symm, rfl⟩
    ·by_cases c4 : (s[k].toNat : Int) ≤ 57
     ·have HG := okChar_dig (k := k) (b := s[k]) (by omega) (by omega) c4
      have HF2 : Hid (allFrom okChar (s.data.toList.drop (k + 1)) (k + 1) = allFrom okChar s.data.toList 0) := by rw [HF1.out, HG, Bool.true_and]; rfl
      clear HF1 HG
      go_wp2
      go_round
      case rel => exact ⟨k + 1, by omega, by go_num, HF2⟩
      case measure => simp [intOf]; omega
     ·have HG := okChar_no (k := k) (b := s[k]) (.inl (by omega)) (.inr (.inr (by omega)))
      have HF2 : Hid (okName s = false) := by show _ = _; unfold okName; rw [HF1.out, HG]; simp
      clear HF1 HG
      go_wp2
      go_ret
      exact ⟨ret_bool HF2.out.symm, rfl⟩
  ·have HF2 : Hid (okName s = true) := by show _ = _; rw [HN.out, ← HF.out, List.drop_eq_nil_of_le (by simp; omega)]; rfl
   clear HF
   go_wp2
   go_ret
   exact ⟨ret_bool HF2.out.symm, rfl⟩
theorem beqi_t {a b : Int} (h : a = b) : (a == b) = true ∧ (b == a) = true := by simp [h]
theorem beqi_f {a b : Int} (h : ¬ a = b) : (a == b) = false ∧ (b == a) = false := by simp [h, Ne.symm h]
theorem beqs_t {a b : ByteArray} (h : a = b) : (a.toList == b.toList) = true ∧ (b.toList == a.toList) = true := ⟨strL_eq h, strL_eq h.symm⟩
theorem beqs_f {a b : ByteArray} (h : ¬ a = b) : (a.toList == b.toList) = false ∧ (b.toList == a.toList) = false := ⟨strL_ne h, strL_ne (Ne.symm h)⟩
theorem slices_IndexInt {w0 w : World} {A : Option Addr} {n c : Nat} {l : List Int} (h : Ints w0 A n c l) (hl : Later w0 w) (v : Int) :
  Calls Tryz.prog 82 #[.slice A n c, .int .i64 v] w (Ret (.int .i64 (idx (intIs v) l)) w) := by
 replace h := h.later hl
 have hn := h.le
 have Hl := Lib.hid h.len
 go_enter Tryz.func82, Tryz.ntmps82
 go_wp2
 go_loopw [8] (fun i wr => ∃ k : Nat, k ≤ n ∧ i = .int .i64 k ∧ Hid (idxGo (intIs v) (l.drop k) k = idx (intIs v) l) ∧ Later w wr) (fun i _ => n - (intOf i).toNat)
 case atStart => exact ⟨0, by omega, rfl, rfl, inferInstance⟩
 case round =>
  obtain ⟨k, hk, rfl, HF, hX⟩ := hrel
  have hXw := Later.trans (w := w) inferInstance hX
  by_cases hlt : k < n
  ·obtain ⟨b, o, x, rfl, hx, hc, hi⟩ := Ints.at_ h hlt
   have HF1 := HF.out
   rw [drop_at hx.out] at HF1
   simp only [idxGo] at HF1
   clear HF
   by_cases hxy : x = v
   ·rw [if_pos (by (first | simpa [nameIs, intIs] using hxy | simpa [idIs] using hxy))] at HF1
    have HF2 := Lib.hid HF1
    clear HF1
    obtain ⟨e1, e2⟩ := beqi_t hxy
    clear hxy
    go_wp2
    go_ret
    exact ⟨ret_int HF2.out, inferInstance⟩
   ·rw [if_neg (by (first | simpa [nameIs, intIs] using hxy | simpa [idIs] using hxy))] at HF1
    have HF2 := Lib.hid HF1
    clear HF1
    obtain ⟨e1, e2⟩ := beqi_f hxy
    clear hxy
    go_wp2
    go_roundw
    case rel => exact ⟨k + 1, by omega, by go_num, HF2, inferInstance⟩
    case measure => simp [intOf]; omega
  ·have HF2 : Hid (-1 = idx (intIs v) l) := by
    have h3 := HF.out
    rw [List.drop_eq_nil_of_le (by have := Hl.out; omega)] at h3
    exact h3
   clear HF
   go_wp2
   go_ret
   exact ⟨ret_int HF2.out, inferInstance⟩
theorem slices_IndexStr {w0 w : World} {A : Option Addr} {n c : Nat} {l : List ByteArray} (h : Strs w0 A n c l) (hl : Later w0 w) (v : ByteArray) :
  Calls Tryz.prog 185 #[.slice A n c, .string v] w (Ret (.int .i64 (idx (nameIs v) l)) w) := by
 replace h := h.later hl
 have hn := h.le
 have Hl := Lib.hid h.len
 go_enter Tryz.func185, Tryz.ntmps185
 go_wp2
 go_loopw [8] (fun i wr => ∃ k : Nat, k ≤ n ∧ i = .int .i64 k ∧ Hid (idxGo (nameIs v) (l.drop k) k = idx (nameIs v) l) ∧ Later w wr) (fun i _ => n - (intOf i).toNat)
 case atStart => exact ⟨0, by omega, rfl, rfl, inferInstance⟩
 case round =>
  obtain ⟨k, hk, rfl, HF, hX⟩ := hrel
  have hXw := Later.trans (w := w) inferInstance hX
  by_cases hlt : k < n
  ·obtain ⟨b, o, x, rfl, hx, hc, hi⟩ := Strs.at_ h hlt
   have HF1 := HF.out
   rw [drop_at hx.out] at HF1
   simp only [idxGo] at HF1
   clear HF
   by_cases hxy : x = v
   ·rw [if_pos (by (first | simpa [nameIs, intIs] using hxy | simpa [idIs] using hxy))] at HF1
    have HF2 := Lib.hid HF1
    clear HF1
    obtain ⟨e1, e2⟩ := beqs_t hxy
    clear hxy
    go_wp2
    go_ret
    exact ⟨ret_int HF2.out, inferInstance⟩
   ·rw [if_neg (by (first | simpa [nameIs, intIs] using hxy | simpa [idIs] using hxy))] at HF1
    have HF2 := Lib.hid HF1
    clear HF1
    obtain ⟨e1, e2⟩ := beqs_f hxy
    clear hxy
    go_wp2
    go_roundw
    case rel => exact ⟨k + 1, by omega, by go_num, HF2, inferInstance⟩
    case measure => simp [intOf]; omega
  ·have HF2 : Hid (-1 = idx (nameIs v) l) := by
    have h3 := HF.out
    rw [List.drop_eq_nil_of_le (by have := Hl.out; omega)] at h3
    exact h3
   clear HF
   go_wp2
   go_ret
   exact ⟨ret_int HF2.out, inferInstance⟩
theorem spec_l2Find {w0 w : World} {A : Option Addr} {n c : Nat} {l : List ByteArray} (h : Strs w0 A n c l) (hl : Later w0 w) (v : ByteArray) :
  Calls Tryz.prog 151 #[.slice A n c, .string v] w (Ret (.int .i64 (idx (nameIs v) l)) w) := by
 replace h := h.later hl
 have hn := h.le
 have Hl := Lib.hid h.len
 go_enter Tryz.func151, Tryz.ntmps151
 go_wp2
 go_loopw [5] (fun i wr => ∃ k : Nat, k ≤ n ∧ i = .int .i64 k ∧ Hid (idxGo (nameIs v) (l.drop k) k = idx (nameIs v) l) ∧ Later w wr) (fun i _ => n - (intOf i).toNat)
 case atStart => exact ⟨0, by omega, rfl, rfl, inferInstance⟩
 case round =>
  obtain ⟨k, hk, rfl, HF, hX⟩ := hrel
  have hXw := Later.trans (w := w) inferInstance hX
  by_cases hlt : k < n
  ·obtain ⟨b, o, x, rfl, hx, hc, hi⟩ := Strs.at_ h hlt
   have HF1 := HF.out
   rw [drop_at hx.out] at HF1
   simp only [idxGo] at HF1
   clear HF
   by_cases hxy : x = v
   ·rw [if_pos (by (first | simpa [nameIs, intIs] using hxy | simpa [idIs] using hxy))] at HF1
    have HF2 := Lib.hid HF1
    clear HF1
    obtain ⟨e1, e2⟩ := beqs_t hxy
    clear hxy
    go_wp2
    go_ret
    exact ⟨ret_int HF2.out, inferInstance⟩
   ·rw [if_neg (by (first | simpa [nameIs, intIs] using hxy | simpa [idIs] using hxy))] at HF1
    have HF2 := Lib.hid HF1
    clear HF1
    obtain ⟨e1, e2⟩ := beqs_f hxy
    clear hxy
    go_wp2
    go_roundw
    case rel => exact ⟨k + 1, by omega, by go_num, HF2, inferInstance⟩
    case measure => simp [intOf]; omega
  ·have HF2 : Hid (-1 = idx (nameIs v) l) := by
    have h3 := HF.out
    rw [List.drop_eq_nil_of_le (by have := Hl.out; omega)] at h3
    exact h3
   clear HF
   go_wp2
   go_ret
   exact ⟨ret_int HF2.out, inferInstance⟩
theorem spec_l2Place {w0 w : World} {sA0 : Option Addr} {sn0 sc0 : Nat} {sA1 : Option Addr} {sn1 sc1 : Nat} {r : Line} (h : LineAt w0 sA0 sn0 sc0 sA1 sn1 sc1 r) (hl : Later w0 w) (v : Int) :
  Calls Tryz.prog 179 #[.agg #[.string r.Name, .slice sA0 sn0 sc0, .slice sA1 sn1 sc1], .int .i64 v] w (Ret (.int .i64 (idx (intIs v) r.Stops)) w) := by
 replace h := h.later hl
 have hS := h.l_Stops
 have hn := hS.le
 have Hl := Lib.hid hS.len
 have HB0 : ∀ W [Later (w.alloc (.cells #[.string r.Name, .slice sA0 sn0 sc0, .slice sA1 sn1 sc1] 120)) W] (j : Nat), W.cell? ⟨w.heap.size, j, none⟩ = #[.string r.Name, .slice sA0 sn0 sc0, .slice sA1 sn1 sc1][j]? := Later.boxes (t := 120) (fr := (0, 0)) (heap_new (by simp; try omega))
 go_enter Tryz.func179, Tryz.ntmps179
 go_wp2
 go_loopw [5] (fun i wr => ∃ k : Nat, k ≤ sn0 ∧ i = .int .i64 k ∧ Hid (idxGo (intIs v) (r.Stops.drop k) k = idx (intIs v) r.Stops) ∧ Later (w.alloc (.cells #[.string r.Name, .slice sA0 sn0 sc0, .slice sA1 sn1 sc1] 120)) wr) (fun i _ => sn0 - (intOf i).toNat)
 case atStart => exact ⟨0, by omega, rfl, rfl, inferInstance⟩
 case round =>
  obtain ⟨k, hk, rfl, HF, hX⟩ := hrel
  have hXw := Later.trans (w := w) inferInstance hX
  by_cases hlt : k < sn0
  ·obtain ⟨b, o, x, rfl, hx, hc, hi⟩ := Ints.at_ hS hlt
   have HF1 := HF.out
   rw [drop_at hx.out] at HF1
   simp only [idxGo] at HF1
   clear HF
   by_cases hxy : x = v
   ·rw [if_pos (by (first | simpa [nameIs, intIs] using hxy | simpa [idIs] using hxy))] at HF1
    have HF2 := Lib.hid HF1
    clear HF1
    obtain ⟨e1, e2⟩ := beqi_t hxy
    clear hxy
    go_wp2
    go_ret
    exact ⟨ret_int HF2.out, inferInstance⟩
   ·rw [if_neg (by (first | simpa [nameIs, intIs] using hxy | simpa [idIs] using hxy))] at HF1
    have HF2 := Lib.hid HF1
    clear HF1
    obtain ⟨e1, e2⟩ := beqi_f hxy
    clear hxy
    go_wp2
    go_roundw
    case rel => exact ⟨k + 1, by omega, by go_num, HF2, inferInstance⟩
    case measure => simp [intOf]; omega
  ·have HF2 : Hid (-1 = idx (intIs v) r.Stops) := by
    have h3 := HF.out
    rw [List.drop_eq_nil_of_le (by have := Hl.out; omega)] at h3
    exact h3
   clear HF
   go_wp2
   go_ret
   exact ⟨ret_int HF2.out, inferInstance⟩
theorem spec_l2LineNamed {w0 w : World} {sA0 : Option Addr} {sn0 sc0 : Nat} {sA1 : Option Addr} {sn1 sc1 : Nat} {r : Network} (h : NetworkAt w0 sA0 sn0 sc0 sA1 sn1 sc1 r) (hl : Later w0 w) (v : ByteArray) :
  Calls Tryz.prog 153 #[.agg #[.slice sA0 sn0 sc0, .slice sA1 sn1 sc1], .string v] w (Ret (.int .i64 (idx (fun x => nameIs v x.Name) r.Lines)) w) := by
 replace h := h.later hl
 have hS := h.l_Lines
 have hn := hS.le
 have Hl := Lib.hid hS.len
 have HB0 : ∀ W [Later (w.alloc (.cells #[.slice sA0 sn0 sc0, .slice sA1 sn1 sc1] 41)) W] (j : Nat), W.cell? ⟨w.heap.size, j, none⟩ = #[.slice sA0 sn0 sc0, .slice sA1 sn1 sc1][j]? := Later.boxes (t := 41) (fr := (0, 0)) (heap_new (by simp; try omega))
 go_enter Tryz.func153, Tryz.ntmps153
 go_wp2
 go_loopw [5] (fun i wr => ∃ k : Nat, k ≤ sn1 ∧ i = .int .i64 k ∧ Hid (idxGo (fun x => nameIs v x.Name) (r.Lines.drop k) k = idx (fun x => nameIs v x.Name) r.Lines) ∧ Later (w.alloc (.cells #[.slice sA0 sn0 sc0, .slice sA1 sn1 sc1] 41)) wr) (fun i _ => sn1 - (intOf i).toNat)
 case atStart => exact ⟨0, by omega, rfl, rfl, inferInstance⟩
 case round =>
  obtain ⟨k, hk, rfl, HF, hX⟩ := hrel
  have hXw := Later.trans (w := w) inferInstance hX
  by_cases hlt : k < sn1
  ·obtain ⟨b, o, xA0, xn0, xc0, xA1, xn1, xc1, x, rfl, hx, hc0, hc1, hc2, hi⟩ := Lines.at_ hS hlt
   have HF1 := HF.out
   rw [drop_at hx.out] at HF1
   simp only [idxGo] at HF1
   clear HF
   by_cases hxy : x.Name = v
   ·rw [if_pos (by (first | simpa [nameIs, intIs] using hxy | simpa [idIs] using hxy))] at HF1
    have HF2 := Lib.hid HF1
    clear HF1
    obtain ⟨e1, e2⟩ := beqs_t hxy
    clear hxy
    go_wp2
    go_ret
    exact ⟨ret_int HF2.out, inferInstance⟩
   ·rw [if_neg (by (first | simpa [nameIs, intIs] using hxy | simpa [idIs] using hxy))] at HF1
    have HF2 := Lib.hid HF1
    clear HF1
    obtain ⟨e1, e2⟩ := beqs_f hxy
    clear hxy
    go_wp2
    go_roundw
    case rel => exact ⟨k + 1, by omega, by go_num, HF2, inferInstance⟩
    case measure => simp [intOf]; omega
  ·have HF2 : Hid (-1 = idx (fun x => nameIs v x.Name) r.Lines) := by
    have h3 := HF.out
    rw [List.drop_eq_nil_of_le (by have := Hl.out; omega)] at h3
    exact h3
   clear HF
   go_wp2
   go_ret
   exact ⟨ret_int HF2.out, inferInstance⟩
end Go.Proofs.YtknhebakebmlcaaGreat
namespace Go.Proofs.YtknhebakebmlcaaGreat
open Go Go.RowKit
set_option linter.unusedVariables false
set_option maxRecDepth 100000
/-- The call returned a slice that reads as l. -/
def RetR {α : Type} (sz : Nat) (r : Rep α) (l : List α) (w : World) (e : Ending) (w' : World) : Prop := ∃ A n c, e = .returned (.slice A n c) ∧ Sl sz r w' A n c l ∧ Later w w'
def okLineS (ns : Nat) (x : Line) : Bool := okName x.Name && okLine ns x
theorem okNetwork_spec (n : Network) : okNetwork n = (inB n.Stops.length 2 8 && inB n.Lines.length 1 5 && okNames n.Stops && allFrom (fun i x => okLineS n.Stops.length x && decide (idx (fun y => nameIs x.Name y.Name) n.Lines = (i : Int))) n.Lines 0) := by
 unfold okNetwork
 rw [show okNames (n.Lines.map Line.Name) = allFrom (fun i x => okName x.Name && decide (idx (fun y => nameIs x.Name y.Name) n.Lines = (i : Int))) n.Lines 0 from by
  unfold okNames
  rw [allFrom_map]
  exact allFrom_congr fun j x _ => by simp only [nameAt, idx_map]]
 rw [Bool.and_assoc, ← allFrom_all (okLine n.Stops.length) n.Lines 0, ← allFrom_and]
 congr 1
 exact allFrom_congr fun j x _ => by
  unfold okLineS
  cases okName x.Name <;> cases okLine n.Stops.length x <;> simp
theorem bnei_f {a b : Int} (h : a = b) : (a != b) = false := by simp [h]
theorem bnei_t {a b : Int} (h : ¬ a = b) : (a != b) = true := by simp [h]
theorem impl_isStop {w0 w : World} {sA0 : Option Addr} {sn0 sc0 : Nat} {sA1 : Option Addr} {sn1 sc1 : Nat} {r : Network} (h : NetworkAt w0 sA0 sn0 sc0 sA1 sn1 sc1 r) (hl : Later w0 w) (v : Int) :
  Calls Tryz.prog 186 #[.agg #[.slice sA0 sn0 sc0, .slice sA1 sn1 sc1], .int .i64 v] w (Ret (.bool (inB v 0 ((r.Stops.length : Int) - 1))) w) := by
 replace h := h.later hl
 have hS := h.l_Stops
 have hn := hS.le
 have Hl := Lib.hid hS.len
 have HB0 : ∀ W [Later (w.alloc (.cells #[.slice sA0 sn0 sc0, .slice sA1 sn1 sc1] 41)) W] (j : Nat), W.cell? ⟨w.heap.size, j, none⟩ = #[.slice sA0 sn0 sc0, .slice sA1 sn1 sc1][j]? := Later.boxes (t := 41) (fr := (0, 0)) (heap_new (by simp; try omega))
 by_cases h0 : 0 ≤ v
 ·by_cases h1 : v < sn0
  ·have HN : Hid (inB v 0 ((r.Stops.length : Int) - 1) = true) := by show _ = _; rw [inB_t, ← Hl.out]; omega
   go_enter Tryz.func186, Tryz.ntmps186
   go_wp2
   go_ret
   exact ⟨ret_bool HN.out.symm, inferInstance⟩
  ·have HN : Hid (inB v 0 ((r.Stops.length : Int) - 1) = false) := by show _ = _; rw [inB_f, ← Hl.out]; omega
   go_enter Tryz.func186, Tryz.ntmps186
   go_wp2
   go_ret
   exact ⟨ret_bool HN.out.symm, inferInstance⟩
 ·have HN : Hid (inB v 0 ((r.Stops.length : Int) - 1) = false) := by show _ = _; rw [inB_f, ← Hl.out]; omega
  go_enter Tryz.func186, Tryz.ntmps186
  go_wp2
  go_ret
  exact ⟨ret_bool HN.out.symm, inferInstance⟩
theorem impl_isLine {w0 w : World} {sA0 : Option Addr} {sn0 sc0 : Nat} {sA1 : Option Addr} {sn1 sc1 : Nat} {r : Network} (h : NetworkAt w0 sA0 sn0 sc0 sA1 sn1 sc1 r) (hl : Later w0 w) (v : Int) :
  Calls Tryz.prog 160 #[.agg #[.slice sA0 sn0 sc0, .slice sA1 sn1 sc1], .int .i64 v] w (Ret (.bool (inB v 0 ((r.Lines.length : Int) - 1))) w) := by
 replace h := h.later hl
 have hS := h.l_Lines
 have hn := hS.le
 have Hl := Lib.hid hS.len
 have HB0 : ∀ W [Later (w.alloc (.cells #[.slice sA0 sn0 sc0, .slice sA1 sn1 sc1] 41)) W] (j : Nat), W.cell? ⟨w.heap.size, j, none⟩ = #[.slice sA0 sn0 sc0, .slice sA1 sn1 sc1][j]? := Later.boxes (t := 41) (fr := (0, 0)) (heap_new (by simp; try omega))
 by_cases h0 : 0 ≤ v
 ·by_cases h1 : v < sn1
  ·have HN : Hid (inB v 0 ((r.Lines.length : Int) - 1) = true) := by show _ = _; rw [inB_t, ← Hl.out]; omega
   go_enter Tryz.func160, Tryz.ntmps160
   go_wp2
   go_ret
   exact ⟨ret_bool HN.out.symm, inferInstance⟩
  ·have HN : Hid (inB v 0 ((r.Lines.length : Int) - 1) = false) := by show _ = _; rw [inB_f, ← Hl.out]; omega
   go_enter Tryz.func160, Tryz.ntmps160
   go_wp2
   go_ret
   exact ⟨ret_bool HN.out.symm, inferInstance⟩
 ·have HN : Hid (inB v 0 ((r.Lines.length : Int) - 1) = false) := by show _ = _; rw [inB_f, ← Hl.out]; omega
  go_enter Tryz.func160, Tryz.ntmps160
  go_wp2
  go_ret
  exact ⟨ret_bool HN.out.symm, inferInstance⟩
theorem impl_areNames {w0 w : World} {A : Option Addr} {n c : Nat} {l : List ByteArray} (h : Strs w0 A n c l) (hl : Later w0 w) :
  Calls Tryz.prog 157 #[.slice A n c] w (Ret (.bool (okNames l)) w) := by
 replace h := h.later hl
 have hn := h.le
 have Hl := Lib.hid h.len
 go_enter Tryz.func157, Tryz.ntmps157
 go_wp2
 go_loopw [7] (fun i wr => ∃ k : Nat, k ≤ n ∧ i = .int .i64 k ∧ Hid (allFrom (nameAt l) (l.drop k) k = okNames l) ∧ Later w wr) (fun i _ => n - (intOf i).toNat)
 case atStart => exact ⟨0, by omega, rfl, rfl, inferInstance⟩
 case round =>
  obtain ⟨k, hk, rfl, HF, hX⟩ := hrel
  by_cases hlt : k < n
  ·have H := Lib.hid h
   obtain ⟨b, o, x, rfl, hx, hc, hi⟩ := Strs.at_ h hlt
   have HF1 : Hid (okNames l = (nameAt l k x && allFrom (nameAt l) (l.drop (k + 1)) (k + 1))) := by rw [← HF.out, drop_at hx.out]; rfl
   clear HF
   by_cases c1 : okName x = true
   ·by_cases c2 : idx (nameIs x) l = k
    ·have HF2 : Hid (allFrom (nameAt l) (l.drop (k + 1)) (k + 1) = okNames l) := by rw [HF1.out]; unfold nameAt; rw [c1, decide_eq_true c2]; rfl
     have e2 := bnei_f c2
     clear HF1 c2
     go_wp2_with first
      | (go_at_call 184; refine (impl_isName _ hi _).mono ?_; rintro e w' ⟨rfl, rfl⟩)
      | (go_at_call 185; refine (slices_IndexStr H.out inferInstance _).mono ?_; rintro e w1 ⟨rfl, L1⟩; have hY := Later.trans (w := w) inferInstance L1)
     go_roundw
     case rel => exact ⟨k + 1, by omega, by go_num, HF2, inferInstance⟩
     case measure => simp [intOf]; omega
    ·have HF2 : Hid (okNames l = false) := by show _ = _; rw [HF1.out]; unfold nameAt; rw [decide_eq_false c2]; simp
     have e2 := bnei_t c2
     clear HF1 c2
     go_wp2_with first
      | (go_at_call 184; refine (impl_isName _ hi _).mono ?_; rintro e w' ⟨rfl, rfl⟩)
      | (go_at_call 185; refine (slices_IndexStr H.out inferInstance _).mono ?_; rintro e w1 ⟨rfl, L1⟩; have hY := Later.trans (w := w) inferInstance L1)
     go_ret
     exact ⟨ret_bool HF2.out.symm, inferInstance⟩
   ·have c3 : okName x = false := by simpa using c1
    have HF2 : Hid (okNames l = false) := by show _ = _; rw [HF1.out]; unfold nameAt; rw [c3]; simp
    clear HF1 c1
    go_wp2_with (go_at_call 184; refine (impl_isName _ hi _).mono ?_; rintro e w' ⟨rfl, rfl⟩)
    go_ret
    exact ⟨ret_bool HF2.out.symm, inferInstance⟩
  ·have HF2 : Hid (okNames l = true) := by show _ = _; rw [← HF.out, List.drop_eq_nil_of_le (by have := Hl.out; omega)]; rfl
   clear HF
   go_wp2
   go_ret
   exact ⟨ret_bool HF2.out.symm, inferInstance⟩
theorem impl_lineNames {w0 w : World} {sA0 : Option Addr} {sn0 sc0 : Nat} {sA1 : Option Addr} {sn1 sc1 : Nat} {r : Network} (h : NetworkAt w0 sA0 sn0 sc0 sA1 sn1 sc1 r) (hl : Later w0 w) (hn : sn1 ≤ 1048576) :
  Calls Tryz.prog 158 #[.agg #[.slice sA0 sn0 sc0, .slice sA1 sn1 sc1]] w (RetR 1 rStr (r.Lines.map Line.Name) w) := by
 obtain ⟨C0, hC0, hmk⟩ := make_row (P := Tryz.prog) 22 9 Tryz.underlying22 (show _ = some (some (.string ByteArray.empty), 1, 16) by kernel_rfl) sn1 (by omega) (by omega)
 replace h := h.later hl
 have hS := h.l_Lines
 have Hl := Lib.hid hS.len
 have HB0 : ∀ W [Later (w.alloc (.cells #[.slice sA0 sn0 sc0, .slice sA1 sn1 sc1] 41)) W] (j : Nat), W.cell? ⟨w.heap.size, j, none⟩ = #[.slice sA0 sn0 sc0, .slice sA1 sn1 sc1][j]? := Later.boxes (t := 41) (fr := (0, 0)) (heap_new (by simp; try omega))
 go_enter Tryz.func158, Tryz.ntmps158
 go_wp2
 go_loopw [13] (fun i wr => ∃ (k : Nat) (cs : Array Value), k ≤ sn1 ∧ i = .int .i64 k ∧ Blk wr (w.heap.size + 1) 9 cs ∧ cs.size = sn1 ∧ (∀ (j : Nat) (x : Line), j < k → r.Lines[j]? = some x → cs[j]? = some (.string x.Name) ∧ x.Name.size ≤ maxLen) ∧ Later (w.alloc (.cells #[.slice sA0 sn0 sc0, .slice sA1 sn1 sc1] 41)) wr) (fun i _ => sn1 - (intOf i).toNat)
 case atStart => exact ⟨0, C0, by omega, rfl, heap_new (by simp), by omega, fun j x hj => by omega, inferInstance⟩
 case round =>
  obtain ⟨k, cs, hk, rfl, hB, hsz, hcs, hX⟩ := hrel
  have hU := Later.trans (w := w) inferInstance hX
  have HB := Lib.hid hB
  have HS := Lib.hid hcs
  have Hsz := Lib.hid hsz
  haveI hN : New (w.alloc (.cells #[.slice sA0 sn0 sc0, .slice sA1 sn1 sc1] 41)) (w.heap.size + 1) := ⟨by simp⟩
  haveI hN2 : New w (w.heap.size + 1) := ⟨by omega⟩
  by_cases hlt : k < sn1
  ·obtain ⟨b, o, xA0, xn0, xc0, xA1, xn1, xc1, x, rfl, hx, hc0, hc1, hc2, hi⟩ := Lines.at_ hS hlt
   obtain ⟨v0, hv0⟩ := hB.get (i := k) (by omega)
   have hfz := hB.frozen k
   have hbl := hB.lt
   have hs := hi.s_Name
   clear hB hcs hsz
   go_wp2
   go_roundw
   case rel =>
    refine ⟨k + 1, cs.setIfInBounds k (.string x.Name), by omega, by go_num, (HB.out.set_ k _).alloc _, by have := Hsz.out; simpa using this, fun j y hj hy => ?_, inferInstance⟩
    by_cases e : j = k
    ·subst e
     rw [set_eq _ (by have := Hsz.out; omega), Option.some.inj (hx.out.symm.trans hy)]
     rw [Option.some.inj (hx.out.symm.trans hy)] at hs
     exact ⟨rfl, hs⟩
    ·rw [set_ne _ e]; exact HS.out j y (by omega) hy
   case measure => simp [intOf]; omega
  ·clear hB hcs hsz
   go_wp2
   go_ret
   refine ⟨_, _, _, rfl, (OSl.strs_blk HB.out (by have := Hl.out; simpa using this) (by omega) (fun j x hx => ?_)).reads, inferInstance⟩
   rw [List.getElem?_map] at hx
   obtain ⟨y, hy, rfl⟩ := Option.map_eq_some_iff.1 hx
   exact HS.out j y (by have := (List.getElem?_eq_some_iff.1 hy).1; have := Hl.out; omega) hy

theorem okLine_no1 {ns : Nat} {x : Line} (h : inB x.Stops.length 2 6 = false) : okLine ns x = false := by unfold okLine; rw [h]; rfl
theorem okLine_no2 {ns : Nat} {x : Line} (h : ¬ x.Runs.length + 1 = x.Stops.length) : okLine ns x = false := by unfold okLine; rw [decide_eq_false h]; simp
theorem okLine_no3 {ns : Nat} {x : Line} (h : allFrom (stopAt ns x.Stops) x.Stops 0 = false) : okLine ns x = false := by unfold okLine; rw [h]; simp
theorem okLine_no4 {ns : Nat} {x : Line} (h : x.Runs.all (fun r => inB r 1 60) = false) : okLine ns x = false := by unfold okLine; rw [h]; simp
theorem okLine_yes {ns : Nat} {x : Line} (h1 : inB x.Stops.length 2 6 = true) (h2 : x.Runs.length + 1 = x.Stops.length) (h3 : allFrom (stopAt ns x.Stops) x.Stops 0 = true) (h4 : x.Runs.all (fun r => inB r 1 60) = true) : okLine ns x = true := by
 unfold okLine; rw [h1, decide_eq_true h2, h3, h4]; rfl
theorem stopAt_no1 {ns : Nat} {l : List Int} {k : Nat} {x : Int} (h : inB x 0 ((ns : Int) - 1) = false) : stopAt ns l k x = false := by unfold stopAt; rw [h]; rfl
theorem stopAt_no2 {ns : Nat} {l : List Int} {k : Nat} {x : Int} (h : ¬ idx (intIs x) l = k) : stopAt ns l k x = false := by unfold stopAt; rw [decide_eq_false h]; simp
theorem stopAt_yes {ns : Nat} {l : List Int} {k : Nat} {x : Int} (h : inB x 0 ((ns : Int) - 1) = true) (h2 : idx (intIs x) l = k) : stopAt ns l k x = true := by unfold stopAt; rw [h, decide_eq_true h2]; rfl
set_option maxHeartbeats 400000 in
theorem impl_isValidLine {w0 w : World} {sA0 : Option Addr} {sn0 sc0 : Nat} {sA1 : Option Addr} {sn1 sc1 : Nat} {r : Network} (h : NetworkAt w0 sA0 sn0 sc0 sA1 sn1 sc1 r) (hl : Later w0 w) {qA0 : Option Addr} {qn0 qc0 : Nat} {qA1 : Option Addr} {qn1 qc1 : Nat} {x : Line} (h' : LineAt w0 qA0 qn0 qc0 qA1 qn1 qc1 x) :
  Calls Tryz.prog 159 #[.agg #[.slice sA0 sn0 sc0, .slice sA1 sn1 sc1], .agg #[.string x.Name, .slice qA0 qn0 qc0, .slice qA1 qn1 qc1]] w (Ret (.bool (okLine r.Stops.length x)) w) := by
 replace h := h.later hl
 replace h' := h'.later hl
 have hS := h'.l_Stops
 have hR := h'.l_Runs
 have hn0 := hS.le
 have hn1 := hR.le
 have Hls := Lib.hid hS.len
 have Hlr := Lib.hid hR.len
 have HB0 : ∀ W [Later ((w.alloc (.cells #[.slice sA0 sn0 sc0, .slice sA1 sn1 sc1] 41)).alloc (.cells #[.string x.Name, .slice qA0 qn0 qc0, .slice qA1 qn1 qc1] 120)) W] (j : Nat), W.cell? ⟨w.heap.size, j, none⟩ = #[.slice sA0 sn0 sc0, .slice sA1 sn1 sc1][j]? := Later.boxes (t := 41) (fr := (0, 0)) ((heap_old (by simp; try omega)).trans (heap_new (by simp; try omega))); have HB1 : ∀ W [Later ((w.alloc (.cells #[.slice sA0 sn0 sc0, .slice sA1 sn1 sc1] 41)).alloc (.cells #[.string x.Name, .slice qA0 qn0 qc0, .slice qA1 qn1 qc1] 120)) W] (j : Nat), W.cell? ⟨w.heap.size + 1, j, none⟩ = #[.string x.Name, .slice qA0 qn0 qc0, .slice qA1 qn1 qc1][j]? := Later.boxes (t := 120) (fr := (0, 0)) (heap_new (by simp; try omega))
 by_cases b1 : inB qn0 2 6 = true
 rotate_left
 ·have g1 : inB qn0 2 6 = false := by simpa using b1
  have HN : Hid (okLine r.Stops.length x = false) := okLine_no1 (by rw [← Hls.out]; exact g1)
  clear b1
  go_enter Tryz.func159, Tryz.ntmps159
  go_wp2_with (go_at_call 94; refine (impl_within _ _ _ _).mono ?_; rintro e w' ⟨rfl, rfl⟩)
  go_ret
  exact ⟨ret_bool HN.out.symm, inferInstance⟩
 have c2 := inB_t.1 b1
 have hq1 : 2 ≤ qn0 := by omega
 have hq2 : qn0 ≤ 6 := by omega
 clear c2
 by_cases b2 : qn1 + 1 = qn0
 rotate_left
 ·have g2 : ((qn1 : Int) != (qn0 : Int) - 1) = true := by rw [bne_iff_ne]; omega
  have HN : Hid (okLine r.Stops.length x = false) := okLine_no2 (by rw [← Hls.out, ← Hlr.out]; exact b2)
  clear b2
  go_enter Tryz.func159, Tryz.ntmps159
  go_wp2_with (go_at_call 94; refine (impl_within _ _ _ _).mono ?_; rintro e w' ⟨rfl, rfl⟩)
  go_ret
  exact ⟨ret_bool HN.out.symm, inferInstance⟩
 have g2 : ((qn1 : Int) != (qn0 : Int) - 1) = false := by rw [bne_eq_false_iff_eq]; omega
 have B1 : Hid (inB x.Stops.length 2 6 = true) := by rw [← Hls.out]; exact b1
 have B2 : Hid (x.Runs.length + 1 = x.Stops.length) := by rw [← Hls.out, ← Hlr.out]; exact b2
 clear b2
 go_enter Tryz.func159, Tryz.ntmps159
 go_wp2_with (go_at_call 94; refine (impl_within _ _ _ _).mono ?_; rintro e w' ⟨rfl, rfl⟩)
 clear b1 g2
 go_loopw [27] (fun i wr => ∃ k : Nat, k ≤ qn0 ∧ i = .int .i64 k ∧ Hid (allFrom (stopAt r.Stops.length x.Stops) (x.Stops.drop k) k = allFrom (stopAt r.Stops.length x.Stops) x.Stops 0) ∧ Later ((w.alloc (.cells #[.slice sA0 sn0 sc0, .slice sA1 sn1 sc1] 41)).alloc (.cells #[.string x.Name, .slice qA0 qn0 qc0, .slice qA1 qn1 qc1] 120)) wr) (fun i _ => qn0 - (intOf i).toNat)
 case atStart => exact ⟨0, by omega, rfl, rfl, inferInstance⟩
 case round =>
  obtain ⟨k, hk, rfl, HF, hX⟩ := hrel
  have hU := Later.trans (w := w) inferInstance hX
  by_cases hlt : k < qn0
  ·have H := Lib.hid h
   have HS := Lib.hid hS
   obtain ⟨b, o, y, hA, hy, hc, hi⟩ := Ints.at_ hS hlt
   have HF1 : Hid (allFrom (stopAt r.Stops.length x.Stops) x.Stops 0 = (stopAt r.Stops.length x.Stops k y && allFrom (stopAt r.Stops.length x.Stops) (x.Stops.drop (k + 1)) (k + 1))) := by rw [← HF.out, drop_at hy.out]; rfl
   clear HF
   subst hA
   by_cases c1 : inB y 0 ((r.Stops.length : Int) - 1) = true
   ·by_cases c2 : idx (intIs y) x.Stops = k
    ·have HF2 : Hid (allFrom (stopAt r.Stops.length x.Stops) (x.Stops.drop (k + 1)) (k + 1) = allFrom (stopAt r.Stops.length x.Stops) x.Stops 0) := by rw [HF1.out, stopAt_yes c1 c2]; rfl
     have e2 := bnei_f c2
     clear HF1 c2
     go_wp2_with first
      | (go_at_call 186; refine (impl_isStop H.out inferInstance _).mono ?_; rintro e w1 ⟨rfl, L1⟩; have hX1 := hX.trans L1; have hU1 := hU.trans L1)
      | (go_at_call 82; refine (slices_IndexInt HS.out inferInstance _).mono ?_; rintro e w2 ⟨rfl, L2⟩; have hX2 := hX1.trans L2; have hU2 := hU1.trans L2)
     go_roundw
     case rel => exact ⟨k + 1, by omega, by go_num, HF2, inferInstance⟩
     case measure => simp [intOf]; omega
    ·have HF2 : Hid (okLine r.Stops.length x = false) := okLine_no3 (by rw [HF1.out, stopAt_no2 c2]; rfl)
     have e2 := bnei_t c2
     clear HF1 c2
     go_wp2_with first
      | (go_at_call 186; refine (impl_isStop H.out inferInstance _).mono ?_; rintro e w1 ⟨rfl, L1⟩; have hX1 := hX.trans L1; have hU1 := hU.trans L1)
      | (go_at_call 82; refine (slices_IndexInt HS.out inferInstance _).mono ?_; rintro e w2 ⟨rfl, L2⟩; have hX2 := hX1.trans L2; have hU2 := hU1.trans L2)
     go_ret
     exact ⟨ret_bool HF2.out.symm, inferInstance⟩
   ·have c3 : inB y 0 ((r.Stops.length : Int) - 1) = false := by simpa using c1
    have HF2 : Hid (okLine r.Stops.length x = false) := okLine_no3 (by rw [HF1.out, stopAt_no1 c3]; rfl)
    clear HF1 c1
    go_wp2_with (go_at_call 186; refine (impl_isStop H.out inferInstance _).mono ?_; rintro e w1 ⟨rfl, L1⟩; have hX1 := hX.trans L1; have hU1 := hU.trans L1)
    go_ret
    exact ⟨ret_bool HF2.out.symm, inferInstance⟩
  ·have B3 : Hid (allFrom (stopAt r.Stops.length x.Stops) x.Stops 0 = true) := by show _ = _; rw [← HF.out, List.drop_eq_nil_of_le (by have := Hls.out; omega)]; rfl
   clear HF
   go_wp2_with fail
   go_loopw [48] (fun i wr => ∃ k : Nat, k ≤ qn1 ∧ i = .int .i64 k ∧ Hid ((x.Runs.drop k).all (fun r => inB r 1 60) = x.Runs.all (fun r => inB r 1 60)) ∧ Later ((w.alloc (.cells #[.slice sA0 sn0 sc0, .slice sA1 sn1 sc1] 41)).alloc (.cells #[.string x.Name, .slice qA0 qn0 qc0, .slice qA1 qn1 qc1] 120)) wr) (fun i _ => qn1 - (intOf i).toNat)
   case atStart => exact ⟨0, by omega, rfl, rfl, inferInstance⟩
   case round =>
    obtain ⟨k, hk, rfl, HF, hX⟩ := hrel
    have hU := Later.trans (w := w) inferInstance hX
    by_cases hlt : k < qn1
    ·obtain ⟨b, o, y, rfl, hy, hc, hi⟩ := Ints.at_ hR hlt
     have HF1 : Hid (x.Runs.all (fun r => inB r 1 60) = (inB y 1 60 && (x.Runs.drop (k + 1)).all (fun r => inB r 1 60))) := by rw [← HF.out, drop_at hy.out]; rfl
     clear HF
     by_cases c1 : inB y 1 60 = true
     ·have HF2 : Hid ((x.Runs.drop (k + 1)).all (fun r => inB r 1 60) = x.Runs.all (fun r => inB r 1 60)) := by rw [HF1.out, c1]; rfl
      clear HF1
      go_wp2_with (go_at_call 94; refine (impl_within _ _ _ _).mono ?_; rintro e w' ⟨rfl, rfl⟩)
      go_roundw
      case rel => exact ⟨k + 1, by omega, by go_num, HF2, inferInstance⟩
      case measure => simp [intOf]; omega
     ·have c2 : inB y 1 60 = false := by simpa using c1
      have HG : x.Runs.all (fun r => inB r 1 60) = false := by rw [HF1.out, c2]; rfl
      have HF2 := Lib.hid HG
      clear HF1 c1 HG
      go_wp2_with (go_at_call 94; refine (impl_within _ _ _ _).mono ?_; rintro e w' ⟨rfl, rfl⟩)
      go_ret
      exact ⟨ret_bool (okLine_no4 HF2.out).symm, inferInstance⟩
    ·have HF2 : Hid (x.Runs.all (fun r => inB r 1 60) = true) := by show _ = _; rw [← HF.out, List.drop_eq_nil_of_le (by have := Hlr.out; omega)]; rfl
     clear HF
     go_wp2
     go_ret
     exact ⟨ret_bool (okLine_yes B1.out B2.out B3.out HF2.out).symm, inferInstance⟩
end Go.Proofs.YtknhebakebmlcaaGreat
namespace Go.Proofs.YtknhebakebmlcaaGreat
open Go Go.RowKit
set_option linter.unusedVariables false
set_option maxRecDepth 100000
theorem okLineS_no0 {ns : Nat} {x : Line} (h : okName x.Name = false) : okLineS ns x = false := by unfold okLineS; rw [h]; rfl
theorem okLineS_no {ns : Nat} {x : Line} (h : okLine ns x = false) : okLineS ns x = false := by unfold okLineS; rw [h]; simp
theorem okLineS_yes {ns : Nat} {x : Line} (h0 : okName x.Name = true) (h : okLine ns x = true) : okLineS ns x = true := by unfold okLineS; rw [h, h0]; rfl
set_option maxHeartbeats 800000 in
theorem spec_l2Line {w0 w : World} {ns : Nat} {qA0 : Option Addr} {qn0 qc0 : Nat} {qA1 : Option Addr} {qn1 qc1 : Nat} {x : Line} (h' : LineAt w0 qA0 qn0 qc0 qA1 qn1 qc1 x) (hl : Later w0 w) (hns : ns ≤ 1048576) :
  Calls Tryz.prog 152 #[.agg #[.string x.Name, .slice qA0 qn0 qc0, .slice qA1 qn1 qc1], .int .i64 ns] w (Ret (.bool (okLineS ns x)) w) := by
 replace h' := h'.later hl
 have hS := h'.l_Stops
 have hR := h'.l_Runs
 have hnm : x.Name.size ≤ 9223372036854775807 := by have := h'.s_Name; unfold maxLen at this; exact this
 have hn0 := hS.le
 have hn1 := hR.le
 have Hls := Lib.hid hS.len
 have Hlr := Lib.hid hR.len
 have HB0 : ∀ W [Later (w.alloc (.cells #[.string x.Name, .slice qA0 qn0 qc0, .slice qA1 qn1 qc1] 120)) W] (j : Nat), W.cell? ⟨w.heap.size, j, none⟩ = #[.string x.Name, .slice qA0 qn0 qc0, .slice qA1 qn1 qc1][j]? := Later.boxes (t := 120) (fr := (0, 0)) (heap_new (by simp; try omega))
 have hB : Later w (w.alloc (.cells #[.string x.Name, .slice qA0 qn0 qc0, .slice qA1 qn1 qc1] 120)) := inferInstance
 by_cases b0 : okName x.Name = true
 rotate_left
 ·have g0 : okName x.Name = false := by simpa using b0
  have HN := Lib.hid (okLineS_no0 (ns := ns) g0)
  clear b0
  go_enter Tryz.func152, Tryz.ntmps152
  go_wp2_with first
   | (go_at_call 87; refine (spec_l1In _ _ _ _).mono ?_; rintro e w' ⟨rfl, rfl⟩)
   | (go_at_call 150; refine (spec_l2Name _ hnm _).mono ?_; rintro e w' ⟨rfl, rfl⟩)
  go_ret
  exact ⟨ret_bool HN.out.symm, inferInstance⟩
 by_cases b1 : inB qn0 2 6 = true
 rotate_left
 ·have g1 : inB qn0 2 6 = false := by simpa using b1
  have HN : Hid (okLineS ns x = false) := okLineS_no (okLine_no1 (by rw [← Hls.out]; exact g1))
  clear b1
  go_enter Tryz.func152, Tryz.ntmps152
  go_wp2_with first
   | (go_at_call 87; refine (spec_l1In _ _ _ _).mono ?_; rintro e w' ⟨rfl, rfl⟩)
   | (go_at_call 150; refine (spec_l2Name _ hnm _).mono ?_; rintro e w' ⟨rfl, rfl⟩)
  go_ret
  exact ⟨ret_bool HN.out.symm, inferInstance⟩
 have c2 := inB_t.1 b1
 have hq1 : 2 ≤ qn0 := by omega
 have hq2 : qn0 ≤ 6 := by omega
 clear c2
 by_cases b2 : qn1 + 1 = qn0
 rotate_left
 ·have g2 : ((qn1 : Int) != (qn0 : Int) - 1) = true := by rw [bne_iff_ne]; omega
  have HN : Hid (okLineS ns x = false) := okLineS_no (okLine_no2 (by rw [← Hls.out, ← Hlr.out]; exact b2))
  clear b2
  go_enter Tryz.func152, Tryz.ntmps152
  go_wp2_with first
   | (go_at_call 87; refine (spec_l1In _ _ _ _).mono ?_; rintro e w' ⟨rfl, rfl⟩)
   | (go_at_call 150; refine (spec_l2Name _ hnm _).mono ?_; rintro e w' ⟨rfl, rfl⟩)
  go_ret
  exact ⟨ret_bool HN.out.symm, inferInstance⟩
 have g2 : ((qn1 : Int) != (qn0 : Int) - 1) = false := by rw [bne_eq_false_iff_eq]; omega
 have B0 := Lib.hid b0
 have B1 : Hid (inB x.Stops.length 2 6 = true) := by rw [← Hls.out]; exact b1
 have B2 : Hid (x.Runs.length + 1 = x.Stops.length) := by rw [← Hls.out, ← Hlr.out]; exact b2
 clear b2
 go_enter Tryz.func152, Tryz.ntmps152
 go_wp2_with first
  | (go_at_call 87; refine (spec_l1In _ _ _ _).mono ?_; rintro e w' ⟨rfl, rfl⟩)
  | (go_at_call 150; refine (spec_l2Name _ hnm _).mono ?_; rintro e w' ⟨rfl, rfl⟩)
 clear b1 g2 b0
 go_loopw [5] (fun i wr => ∃ k : Nat, k ≤ qn0 ∧ i = .int .i64 k ∧ Hid (allFrom (stopAt ns x.Stops) (x.Stops.drop k) k = allFrom (stopAt ns x.Stops) x.Stops 0) ∧ Later (w.alloc (.cells #[.string x.Name, .slice qA0 qn0 qc0, .slice qA1 qn1 qc1] 120)) wr) (fun i _ => qn0 - (intOf i).toNat)
 case atStart => exact ⟨0, by omega, rfl, rfl, inferInstance⟩
 case round =>
  obtain ⟨k, hk, rfl, HF, hX⟩ := hrel
  have hU := Later.trans (w := w) inferInstance hX
  by_cases hlt : k < qn0
  ·have H' := Lib.hid h'
   obtain ⟨b, o, y, hA, hy, hc, hi⟩ := Ints.at_ hS hlt
   have HF1 : Hid (allFrom (stopAt ns x.Stops) x.Stops 0 = (stopAt ns x.Stops k y && allFrom (stopAt ns x.Stops) (x.Stops.drop (k + 1)) (k + 1))) := by rw [← HF.out, drop_at hy.out]; rfl
   clear HF
   subst hA
   by_cases c1 : inB y 0 ((ns : Int) - 1) = true
   ·by_cases c2 : idx (intIs y) x.Stops = k
    ·have HF2 : Hid (allFrom (stopAt ns x.Stops) (x.Stops.drop (k + 1)) (k + 1) = allFrom (stopAt ns x.Stops) x.Stops 0) := by rw [HF1.out, stopAt_yes c1 c2]; rfl
     have e2 := bnei_f c2
     clear HF1 c2
     go_wp2_with fail
     have hwr : IntKind.i64.wrap ((ns : Int) - 1) = (ns : Int) - 1 := by rw [IntKind.wrap_i64]; omega
     go_region_held3 (fun w' => Later w w' ∧ Later (w.alloc (.cells #[.string x.Name, .slice (some ⟨b, o, none⟩) qn0 qc0, .slice qA1 qn1 qc1] 120)) w') (exact ⟨inferInstance, inferInstance⟩) (first | (go_at_call 87; refine (spec_l1In _ _ _ _).mono ?_; rintro e w' ⟨rfl, rfl⟩) | (go_at_call 179; refine (spec_l2Place H'.out inferInstance _).mono ?_; rintro e w2 ⟨rfl, L2⟩; have hX2 := Later.trans (w := (w.alloc (.cells #[.string x.Name, .slice (some ⟨b, o, none⟩) qn0 qc0, .slice qA1 qn1 qc1] 120))) inferInstance L2; have hU2 := Later.trans (w := w) inferInstance L2))
     clear hwr
     go_wp2
     go_roundw
     case rel => exact ⟨k + 1, by omega, by go_num, HF2, inferInstance⟩
     case measure => simp [intOf]; omega
    ·have HF2 : Hid (okLineS ns x = false) := okLineS_no (okLine_no3 (by rw [HF1.out, stopAt_no2 c2]; rfl))
     have e2 := bnei_t c2
     clear HF1 c2
     go_wp2_with fail
     have hwr : IntKind.i64.wrap ((ns : Int) - 1) = (ns : Int) - 1 := by rw [IntKind.wrap_i64]; omega
     go_region_held3 (fun w' => Later w w' ∧ Later (w.alloc (.cells #[.string x.Name, .slice (some ⟨b, o, none⟩) qn0 qc0, .slice qA1 qn1 qc1] 120)) w') (exact ⟨inferInstance, inferInstance⟩) (first | (go_at_call 87; refine (spec_l1In _ _ _ _).mono ?_; rintro e w' ⟨rfl, rfl⟩) | (go_at_call 179; refine (spec_l2Place H'.out inferInstance _).mono ?_; rintro e w2 ⟨rfl, L2⟩; have hX2 := Later.trans (w := (w.alloc (.cells #[.string x.Name, .slice (some ⟨b, o, none⟩) qn0 qc0, .slice qA1 qn1 qc1] 120))) inferInstance L2; have hU2 := Later.trans (w := w) inferInstance L2))
     clear hwr
     go_wp2
     go_ret
     exact ⟨ret_bool HF2.out.symm, inferInstance⟩
   ·have c3 : inB y 0 ((ns : Int) - 1) = false := by simpa using c1
    have HF2 : Hid (okLineS ns x = false) := okLineS_no (okLine_no3 (by rw [HF1.out, stopAt_no1 c3]; rfl))
    clear HF1 c1
    go_wp2_with fail
    have hwr : IntKind.i64.wrap ((ns : Int) - 1) = (ns : Int) - 1 := by rw [IntKind.wrap_i64]; omega
    refine gO (S := (fun w' => Later w w' ∧ Later (w.alloc (.cells #[.string x.Name, .slice (some ⟨b, o, none⟩) qn0 qc0, .slice qA1 qn1 qc1] 120)) w')) (by kernel_rfl) (by exact ⟨inferInstance, inferInstance⟩) (fun _ _ _ _ _ h => h) (fun hHeld hZq => ?_)
    refine gT 0 rfl (by kernel_rfl) (by intro w' hSw; go_simp <;> rfl) hZq hHeld ?_; simp only [Act.put, sA, sZ, sS]
    refine gT 1 rfl (by kernel_rfl) (by intro w' hSw; go_simp <;> rfl) hZq hHeld ?_; simp only [Act.put, sA, sZ, sS]
    refine gT 2 rfl (by kernel_rfl) (by intro w' hSw; go_simp <;> rfl) hZq hHeld ?_; simp only [Act.put, sA, sZ, sS]
    refine gT 3 rfl (by kernel_rfl) (by intro w' hSw; go_simp <;> rfl) hZq hHeld ?_; simp only [Act.put, sA, sZ, sS]
    refine gT 4 rfl (by kernel_rfl) (by intro w' hSw; go_simp <;> rfl) hZq hHeld ?_; simp only [Act.put, sA, sZ, sS]
    refine gT 5 rfl (by kernel_rfl) (by intro w' hSw; go_simp <;> rfl) hZq hHeld ?_; simp only [Act.put, sA, sZ, sS]
    refine gT 6 rfl (by kernel_rfl) (by intro w' hSw; go_simp <;> rfl) hZq hHeld ?_; simp only [Act.put, sA, sZ, sS]
    refine gE 7 rfl (by kernel_rfl) (fun K hK => ?_)
    go_simp
    (go_at_call 87; refine (spec_l1In _ _ _ _).mono ?_; rintro e w' ⟨rfl, rfl⟩)
    refine hK.out _ _ (by exact ⟨inferInstance, inferInstance⟩) (fun hHeld => ?_)
    try simp only [Act.put, sA, sZ, sS]
    refine gT 8 rfl (by kernel_rfl) (by intro w' hSw; go_simp <;> rfl) hZq hHeld ?_; simp only [Act.put, sA, sZ, sS]
    refine gT 9 rfl (by kernel_rfl) (by intro w' hSw; go_simp <;> rfl) hZq hHeld ?_; simp only [Act.put, sA, sZ, sS]
    refine gU 10 rfl (by kernel_rfl) hZq hHeld ?_; simp only [Act.put, sA, sZ, sS]
    refine gU 11 rfl (by kernel_rfl) hZq hHeld ?_; simp only [Act.put, sA, sZ, sS]
    refine gU 12 rfl (by kernel_rfl) hZq hHeld ?_; simp only [Act.put, sA, sZ, sS]
    refine gU 13 rfl (by kernel_rfl) hZq hHeld ?_; simp only [Act.put, sA, sZ, sS]
    refine gU 14 rfl (by kernel_rfl) hZq hHeld ?_; simp only [Act.put, sA, sZ, sS]
    refine gU 15 rfl (by kernel_rfl) hZq hHeld ?_; simp only [Act.put, sA, sZ, sS]
    refine gU 16 rfl (by kernel_rfl) hZq hHeld ?_; simp only [Act.put, sA, sZ, sS]
    refine gU 17 rfl (by kernel_rfl) hZq hHeld ?_; simp only [Act.put, sA, sZ, sS]
    refine gU 18 rfl (by kernel_rfl) hZq hHeld ?_; simp only [Act.put, sA, sZ, sS]
    refine gT 19 rfl (by kernel_rfl) (by intro w' hSw; go_simp <;> rfl) hZq hHeld ?_; simp only [Act.put, sA, sZ, sS]
    refine wpAnyH_done (by kernel_rfl) ?_ _
    clear hwr
    go_wp2
    go_ret
    exact ⟨ret_bool HF2.out.symm, inferInstance⟩
  ·have B3 : Hid (allFrom (stopAt ns x.Stops) x.Stops 0 = true) := by show _ = _; rw [← HF.out, List.drop_eq_nil_of_le (by have := Hls.out; omega)]; rfl
   clear HF
   go_wp2_with fail
   go_loopw [6] (fun i wr => ∃ k : Nat, k ≤ qn1 ∧ i = .int .i64 k ∧ Hid ((x.Runs.drop k).all (fun r => inB r 1 60) = x.Runs.all (fun r => inB r 1 60)) ∧ Later (w.alloc (.cells #[.string x.Name, .slice qA0 qn0 qc0, .slice qA1 qn1 qc1] 120)) wr) (fun i _ => qn1 - (intOf i).toNat)
   case atStart => exact ⟨0, by omega, rfl, rfl, inferInstance⟩
   case round =>
    obtain ⟨k, hk, rfl, HF, hX⟩ := hrel
    have hU := Later.trans (w := w) inferInstance hX
    by_cases hlt : k < qn1
    ·obtain ⟨b, o, y, rfl, hy, hc, hi⟩ := Ints.at_ hR hlt
     have HF1 : Hid (x.Runs.all (fun r => inB r 1 60) = (inB y 1 60 && (x.Runs.drop (k + 1)).all (fun r => inB r 1 60))) := by rw [← HF.out, drop_at hy.out]; rfl
     clear HF
     by_cases c1 : inB y 1 60 = true
     ·have HF2 : Hid ((x.Runs.drop (k + 1)).all (fun r => inB r 1 60) = x.Runs.all (fun r => inB r 1 60)) := by rw [HF1.out, c1]; rfl
      clear HF1
      go_wp2_with (go_at_call 87; refine (spec_l1In _ _ _ _).mono ?_; rintro e w' ⟨rfl, rfl⟩)
      go_roundw
      case rel => exact ⟨k + 1, by omega, by go_num, HF2, inferInstance⟩
      case measure => simp [intOf]; omega
     ·have c2 : inB y 1 60 = false := by simpa using c1
      have HG : x.Runs.all (fun r => inB r 1 60) = false := by rw [HF1.out, c2]; rfl
      have HF2 := Lib.hid HG
      clear HF1 c1 HG
      go_wp2_with (go_at_call 87; refine (spec_l1In _ _ _ _).mono ?_; rintro e w' ⟨rfl, rfl⟩)
      go_ret
      exact ⟨ret_bool (okLineS_no (okLine_no4 HF2.out)).symm, inferInstance⟩
    ·have HF2 : Hid (x.Runs.all (fun r => inB r 1 60) = true) := by show _ = _; rw [← HF.out, List.drop_eq_nil_of_le (by have := Hlr.out; omega)]; rfl
     clear HF
     go_wp2
     go_ret
     exact ⟨ret_bool (okLineS_yes B0.out (okLine_yes B1.out B2.out B3.out HF2.out)).symm, inferInstance⟩
end Go.Proofs.YtknhebakebmlcaaGreat
namespace Go.Proofs.YtknhebakebmlcaaGreat
open Go Go.RowKit
set_option linter.unusedVariables false
set_option maxRecDepth 100000
theorem okNet_1 {n : Network} (h : inB n.Stops.length 2 8 = false) : okNetwork n = false := by unfold okNetwork; rw [h]; rfl
theorem okNet_2 {n : Network} (h : inB n.Lines.length 1 5 = false) : okNetwork n = false := by unfold okNetwork; rw [h]; simp
theorem okNet_3 {n : Network} (h : okNames n.Stops = false) : okNetwork n = false := by unfold okNetwork; rw [h]; simp
theorem okNet_4 {n : Network} (h : okNames (n.Lines.map Line.Name) = false) : okNetwork n = false := by unfold okNetwork; rw [h]; simp
theorem okNet_5 {n : Network} (h : n.Lines.all (okLine n.Stops.length) = false) : okNetwork n = false := by unfold okNetwork; rw [h]; simp
theorem okNet_6 {n : Network} (h : allFrom (fun i x => okLineS n.Stops.length x && decide (idx (fun y => nameIs x.Name y.Name) n.Lines = (i : Int))) n.Lines 0 = false) : okNetwork n = false := by rw [okNetwork_spec, h]; simp
set_option maxHeartbeats 800000 in
theorem impl_IsValidNetwork {w0 w : World} {sA0 : Option Addr} {sn0 sc0 : Nat} {sA1 : Option Addr} {sn1 sc1 : Nat} {r : Network} (h : NetworkAt w0 sA0 sn0 sc0 sA1 sn1 sc1 r) (hl : Later w0 w) :
  Calls Tryz.prog 134 #[.agg #[.slice sA0 sn0 sc0, .slice sA1 sn1 sc1]] w (Ret (.bool (okNetwork r)) w) := by
 replace h := h.later hl
 have hS := h.l_Stops
 have hP := h.l_Lines
 have hn := hS.le
 have hm := hP.le
 have hlen := Lib.hid hS.len
 have hlen1 := Lib.hid hP.len
 have HB0 : ∀ W [Later (w.alloc (.cells #[.slice sA0 sn0 sc0, .slice sA1 sn1 sc1] 41)) W] (j : Nat), W.cell? ⟨w.heap.size, j, none⟩ = #[.slice sA0 sn0 sc0, .slice sA1 sn1 sc1][j]? := Later.boxes (t := 41) (fr := (0, 0)) (heap_new (by simp; try omega))
 by_cases b1 : inB sn0 2 8 = true
 rotate_left
 ·have g1 : inB sn0 2 8 = false := by simpa using b1
  have HN : Hid (okNetwork r = false) := okNet_1 (by rw [← hlen.out]; exact g1)
  clear b1
  go_enter Tryz.func134, Tryz.ntmps134
  go_wp2_with (go_at_call 94; refine (impl_within _ _ _ _).mono ?_; rintro e w' ⟨rfl, rfl⟩)
  go_ret
  exact ⟨ret_bool HN.out.symm, inferInstance⟩
 by_cases b2 : inB sn1 1 5 = true
 rotate_left
 ·have g1 : inB sn1 1 5 = false := by simpa using b2
  have HN : Hid (okNetwork r = false) := okNet_2 (by rw [← hlen1.out]; exact g1)
  clear b2
  go_enter Tryz.func134, Tryz.ntmps134
  go_wp2_with (go_at_call 94; refine (impl_within _ _ _ _).mono ?_; rintro e w' ⟨rfl, rfl⟩)
  go_ret
  exact ⟨ret_bool HN.out.symm, inferInstance⟩
 have hn15 : sn1 ≤ 1048576 := by have := inB_t.1 b2; omega
 have B1 : Hid (inB r.Stops.length 2 8 = true) := by rw [← hlen.out]; exact b1
 have B2 : Hid (inB r.Lines.length 1 5 = true) := by rw [← hlen1.out]; exact b2
 by_cases b3 : okNames r.Stops = true
 rotate_left
 ·have g1 : okNames r.Stops = false := by simpa using b3
  have HN := Lib.hid (okNet_3 g1)
  clear b3
  go_enter Tryz.func134, Tryz.ntmps134
  go_wp2_with first
   | (go_at_call 94; refine (impl_within _ _ _ _).mono ?_; rintro e w' ⟨rfl, rfl⟩)
   | (go_at_call 157; ((with_reducible refine (impl_areNames hS inferInstance).mono ?_); rintro e w1 ⟨rfl, L1⟩); have hX1 := Later.trans (w := (w.alloc (.cells #[.slice sA0 sn0 sc0, .slice sA1 sn1 sc1] 41))) inferInstance L1; have hU1 := Later.trans (w := w) inferInstance L1)
   | (go_at_call 158; refine (impl_lineNames h inferInstance hn15).mono ?_; rintro e w2 ⟨A2, n2, c2, rfl, o2, L2⟩; have hX2 := Later.trans (w := (w.alloc (.cells #[.slice sA0 sn0 sc0, .slice sA1 sn1 sc1] 41))) inferInstance L2; have hU2 := Later.trans (w := w) inferInstance L2)
   | (go_at_call 157; ((with_reducible refine (impl_areNames o2 inferInstance).mono ?_); rintro e w3 ⟨rfl, L3⟩); have hX3 := Later.trans (w := (w.alloc (.cells #[.slice sA0 sn0 sc0, .slice sA1 sn1 sc1] 41))) inferInstance L3; have hU3 := Later.trans (w := w) inferInstance L3)
  go_ret
  exact ⟨ret_bool HN.out.symm, inferInstance⟩
 by_cases b4 : okNames (r.Lines.map Line.Name) = true
 rotate_left
 ·have g1 : okNames (r.Lines.map Line.Name) = false := by simpa using b4
  have HN := Lib.hid (okNet_4 g1)
  clear b4
  go_enter Tryz.func134, Tryz.ntmps134
  go_wp2_with first
   | (go_at_call 94; refine (impl_within _ _ _ _).mono ?_; rintro e w' ⟨rfl, rfl⟩)
   | (go_at_call 157; ((with_reducible refine (impl_areNames hS inferInstance).mono ?_); rintro e w1 ⟨rfl, L1⟩); have hX1 := Later.trans (w := (w.alloc (.cells #[.slice sA0 sn0 sc0, .slice sA1 sn1 sc1] 41))) inferInstance L1; have hU1 := Later.trans (w := w) inferInstance L1)
   | (go_at_call 158; refine (impl_lineNames h inferInstance hn15).mono ?_; rintro e w2 ⟨A2, n2, c2, rfl, o2, L2⟩; have hX2 := Later.trans (w := (w.alloc (.cells #[.slice sA0 sn0 sc0, .slice sA1 sn1 sc1] 41))) inferInstance L2; have hU2 := Later.trans (w := w) inferInstance L2)
   | (go_at_call 157; ((with_reducible refine (impl_areNames o2 inferInstance).mono ?_); rintro e w3 ⟨rfl, L3⟩); have hX3 := Later.trans (w := (w.alloc (.cells #[.slice sA0 sn0 sc0, .slice sA1 sn1 sc1] 41))) inferInstance L3; have hU3 := Later.trans (w := w) inferInstance L3)
  go_ret
  exact ⟨ret_bool HN.out.symm, inferInstance⟩
 have B3 := Lib.hid b3
 have B4 := Lib.hid b4
 go_enter Tryz.func134, Tryz.ntmps134
 go_wp2_with first
  | (go_at_call 94; refine (impl_within _ _ _ _).mono ?_; rintro e w' ⟨rfl, rfl⟩)
  | (go_at_call 157; ((with_reducible refine (impl_areNames hS inferInstance).mono ?_); rintro e w1 ⟨rfl, L1⟩); have hX1 := Later.trans (w := (w.alloc (.cells #[.slice sA0 sn0 sc0, .slice sA1 sn1 sc1] 41))) inferInstance L1; have hU1 := Later.trans (w := w) inferInstance L1)
  | (go_at_call 158; refine (impl_lineNames h inferInstance hn15).mono ?_; rintro e w2 ⟨A2, n2, c2, rfl, o2, L2⟩; have hX2 := Later.trans (w := (w.alloc (.cells #[.slice sA0 sn0 sc0, .slice sA1 sn1 sc1] 41))) inferInstance L2; have hU2 := Later.trans (w := w) inferInstance L2)
  | (go_at_call 157; ((with_reducible refine (impl_areNames o2 inferInstance).mono ?_); rintro e w3 ⟨rfl, L3⟩); have hX3 := Later.trans (w := (w.alloc (.cells #[.slice sA0 sn0 sc0, .slice sA1 sn1 sc1] 41))) inferInstance L3; have hU3 := Later.trans (w := w) inferInstance L3)
 clear b1 b2 b3 b4
 go_loopw [32] (fun i wr => ∃ (k : Nat), k ≤ sn1 ∧ i = .int .i64 k ∧ Hid (r.Lines.all (okLine r.Stops.length) = (r.Lines.drop k).all (okLine r.Stops.length)) ∧ Later (w.alloc (.cells #[.slice sA0 sn0 sc0, .slice sA1 sn1 sc1] 41)) wr) (fun i _ => sn1 - (intOf i).toNat)
 case atStart => exact ⟨0, by omega, rfl, rfl, inferInstance⟩
 case round =>
  obtain ⟨k, hk, rfl, HF, hX⟩ := hrel
  have hU := Later.trans (w := w) inferInstance hX
  by_cases hlt : k < sn1
  ·have H := Lib.hid h
   obtain ⟨b, o, xA0, xn0, xc0, xA1, xn1, xc1, x, rfl, hx, hc0, hc1, hc2, hi⟩ := Lines.at_ hP hlt
   have HF1 : Hid (r.Lines.all (okLine r.Stops.length) = (okLine r.Stops.length x && (r.Lines.drop (k + 1)).all (okLine r.Stops.length))) := by rw [HF.out, drop_at hx.out]; rfl
   clear HF
   by_cases c1 : okLine r.Stops.length x = true
   ·have HF2 : Hid (r.Lines.all (okLine r.Stops.length) = (r.Lines.drop (k + 1)).all (okLine r.Stops.length)) := by rw [HF1.out, c1]; rfl
    clear HF1
    go_wp2_with (go_at_call 159; refine (impl_isValidLine H.out inferInstance hi).mono ?_; rintro e w4 ⟨rfl, L4⟩; have hX4 := hX.trans (Later.trans (w := wr) inferInstance L4); have hU4 := hU.trans (Later.trans (w := wr) inferInstance L4))
    go_roundw
    case rel => exact ⟨k + 1, by omega, by go_num, HF2, inferInstance⟩
    case measure => simp [intOf]; omega
   ·have c3 : okLine r.Stops.length x = false := by simpa using c1
    have HF2 : Hid (okNetwork r = false) := okNet_5 (by rw [HF1.out, c3]; rfl)
    clear HF1 c1
    go_wp2_with (go_at_call 159; refine (impl_isValidLine H.out inferInstance hi).mono ?_; rintro e w4 ⟨rfl, L4⟩; have hX4 := hX.trans (Later.trans (w := wr) inferInstance L4); have hU4 := hU.trans (Later.trans (w := wr) inferInstance L4))
    go_ret
    exact ⟨ret_bool HF2.out.symm, inferInstance⟩
  ·have HF2 : Hid (okNetwork r = true) := by
    show _ = _
    unfold okNetwork
    rw [B1.out, B2.out, B3.out, B4.out, HF.out, List.drop_eq_nil_of_le (by have := hlen1.out; omega)]; rfl
   clear HF
   go_wp2
   go_ret
   exact ⟨ret_bool HF2.out.symm, inferInstance⟩
set_option maxHeartbeats 1000000 in
theorem spec_l2Good {w0 w : World} {sA0 : Option Addr} {sn0 sc0 : Nat} {sA1 : Option Addr} {sn1 sc1 : Nat} {r : Network} (h : NetworkAt w0 sA0 sn0 sc0 sA1 sn1 sc1 r) (hl : Later w0 w) :
  Calls Tryz.prog 124 #[.agg #[.slice sA0 sn0 sc0, .slice sA1 sn1 sc1]] w (Ret (.bool (okNetwork r)) w) := by
 replace h := h.later hl
 have hS := h.l_Stops
 have hP := h.l_Lines
 have hn := hS.le
 have hm := hP.le
 have hlen := Lib.hid hS.len
 have hlen1 := Lib.hid hP.len
 obtain ⟨wb, hwb⟩ : ∃ wb : World, wb = (w.alloc (.cells #[.slice sA0 sn0 sc0, .slice sA1 sn1 sc1] 41)) := ⟨_, rfl⟩
 have HWB := Lib.hid hwb
 clear hwb
 have HB0 : ∀ W [Later (w.alloc (.cells #[.slice sA0 sn0 sc0, .slice sA1 sn1 sc1] 41)) W] (j : Nat), W.cell? ⟨w.heap.size, j, none⟩ = #[.slice sA0 sn0 sc0, .slice sA1 sn1 sc1][j]? := Later.boxes (t := 41) (fr := (0, 0)) (heap_new (by simp; try omega))
 by_cases b1 : inB sn0 2 8 = true
 rotate_left
 ·have g1 : inB sn0 2 8 = false := by simpa using b1
  have HN : Hid (okNetwork r = false) := okNet_1 (by rw [← hlen.out]; exact g1)
  clear b1
  go_enter Tryz.func124, Tryz.ntmps124
  go_wp2_with (go_at_call 87; refine (spec_l1In _ _ _ _).mono ?_; rintro e w' ⟨rfl, rfl⟩)
  go_ret
  exact ⟨ret_bool HN.out.symm, inferInstance⟩
 by_cases b2 : inB sn1 1 5 = true
 rotate_left
 ·have g1 : inB sn1 1 5 = false := by simpa using b2
  have HN : Hid (okNetwork r = false) := okNet_2 (by rw [← hlen1.out]; exact g1)
  clear b2
  go_enter Tryz.func124, Tryz.ntmps124
  go_wp2_with (go_at_call 87; refine (spec_l1In _ _ _ _).mono ?_; rintro e w' ⟨rfl, rfl⟩)
  go_ret
  exact ⟨ret_bool HN.out.symm, inferInstance⟩
 have hn15 : sn0 ≤ 1048576 := by have := inB_t.1 b1; omega
 have B1 : Hid (inB r.Stops.length 2 8 = true) := by rw [← hlen.out]; exact b1
 have B2 : Hid (inB r.Lines.length 1 5 = true) := by rw [← hlen1.out]; exact b2
 go_enter Tryz.func124, Tryz.ntmps124
 go_wp2_with (go_at_call 87; refine (spec_l1In _ _ _ _).mono ?_; rintro e w' ⟨rfl, rfl⟩)
 clear b1 b2
 go_loopw [3] (fun i wr => ∃ k : Nat, k ≤ sn0 ∧ i = .int .i64 k ∧ Hid (allFrom (nameAt r.Stops) (r.Stops.drop k) k = okNames r.Stops) ∧ Later wb wr) (fun i _ => sn0 - (intOf i).toNat)
 case atStart => exact ⟨0, by omega, rfl, rfl, by rw [HWB.out]; infer_instance⟩
 case round =>
  obtain ⟨k, hk, rfl, HF, hX'⟩ := hrel
  have hX : Later (w.alloc (.cells #[.slice sA0 sn0 sc0, .slice sA1 sn1 sc1] 41)) wr := HWB.out ▸ hX'
  have hU := Later.trans (w := w) inferInstance hX
  clear hX'
  by_cases hlt : k < sn0
  ·have HS := Lib.hid hS
   have HB0' : ∀ W [Later wb W] (j : Nat), W.cell? ⟨w.heap.size, j, none⟩ = #[.slice sA0 sn0 sc0, .slice sA1 sn1 sc1][j]? := by rw [HWB.out]; exact HB0
   replace hX : Later wb wr := HWB.out.symm ▸ hX
   clear HB0
   obtain ⟨b, o, x, rfl, hx, hc, hi⟩ := Strs.at_ hS hlt
   have HF1 : Hid (okNames r.Stops = (nameAt r.Stops k x && allFrom (nameAt r.Stops) (r.Stops.drop (k + 1)) (k + 1))) := by rw [← HF.out, drop_at hx.out]; rfl
   clear HF
   by_cases c1 : okName x = true
   ·by_cases c2 : idx (nameIs x) r.Stops = k
    ·have HF2 : Hid (allFrom (nameAt r.Stops) (r.Stops.drop (k + 1)) (k + 1) = okNames r.Stops) := by rw [HF1.out]; unfold nameAt; rw [c1, decide_eq_true c2]; rfl
     have e2 := bnei_f c2
     clear HF1 c2
     go_wp2_with fail
     go_region_held3 (fun w' => Later w w' ∧ Later wb w') (exact ⟨inferInstance, inferInstance⟩) (first | (go_at_call 150; refine (spec_l2Name _ hi _).mono ?_; rintro e w' ⟨rfl, rfl⟩) | (go_at_call 151; refine (spec_l2Find HS.out inferInstance _).mono ?_; rintro e w2 ⟨rfl, L2⟩; have hX2 := Later.trans (w := wb) inferInstance L2; have hU2 := Later.trans (w := w) inferInstance L2))
     go_wp2
     go_roundw
     case rel => exact ⟨k + 1, by omega, by go_num, HF2, inferInstance⟩
     case measure => simp [intOf]; omega
    ·have HF2 : Hid (okNetwork r = false) := okNet_3 (by rw [HF1.out]; unfold nameAt; rw [decide_eq_false c2]; simp)
     have e2 := bnei_t c2
     clear HF1 c2
     go_wp2_with fail
     go_region_held3 (fun w' => Later w w' ∧ Later wb w') (exact ⟨inferInstance, inferInstance⟩) (first | (go_at_call 150; refine (spec_l2Name _ hi _).mono ?_; rintro e w' ⟨rfl, rfl⟩) | (go_at_call 151; refine (spec_l2Find HS.out inferInstance _).mono ?_; rintro e w2 ⟨rfl, L2⟩; have hX2 := Later.trans (w := wb) inferInstance L2; have hU2 := Later.trans (w := w) inferInstance L2))
     go_wp2
     go_ret
     exact ⟨ret_bool HF2.out.symm, inferInstance⟩
   ·have c3 : okName x = false := by simpa using c1
    have HF2 : Hid (okNetwork r = false) := okNet_3 (by rw [HF1.out]; unfold nameAt; rw [c3]; simp)
    clear HF1 c1
    go_wp2_with fail
    refine gO (S := (fun w' => Later w w' ∧ Later wb w')) (by kernel_rfl) (by exact ⟨inferInstance, inferInstance⟩) (fun _ _ _ _ _ h => h) (fun hHeld hZq => ?_)
    refine gT 0 rfl (by kernel_rfl) (by intro w' hSw; go_simp <;> rfl) hZq hHeld ?_; simp only [Act.put, sA, sZ, sS]
    refine gT 1 rfl (by kernel_rfl) (by intro w' hSw; go_simp <;> rfl) hZq hHeld ?_; simp only [Act.put, sA, sZ, sS]
    refine gT 2 rfl (by kernel_rfl) (by intro w' hSw; go_simp <;> rfl) hZq hHeld ?_; simp only [Act.put, sA, sZ, sS]
    refine gT 3 rfl (by kernel_rfl) (by intro w' hSw; go_simp <;> rfl) hZq hHeld ?_; simp only [Act.put, sA, sZ, sS]
    refine gT 4 rfl (by kernel_rfl) (by intro w' hSw; go_simp <;> rfl) hZq hHeld ?_; simp only [Act.put, sA, sZ, sS]
    refine gE 5 rfl (by kernel_rfl) (fun K hK => ?_)
    go_simp
    (go_at_call 150; refine (spec_l2Name _ hi _).mono ?_; rintro e w' ⟨rfl, rfl⟩)
    refine hK.out _ _ (by exact ⟨inferInstance, inferInstance⟩) (fun hHeld => ?_)
    try simp only [Act.put, sA, sZ, sS]
    refine gT 6 rfl (by kernel_rfl) (by intro w' hSw; go_simp <;> rfl) hZq hHeld ?_; simp only [Act.put, sA, sZ, sS]
    refine gT 7 rfl (by kernel_rfl) (by intro w' hSw; go_simp <;> rfl) hZq hHeld ?_; simp only [Act.put, sA, sZ, sS]
    refine gU 8 rfl (by kernel_rfl) hZq hHeld ?_; simp only [Act.put, sA, sZ, sS]
    refine gU 9 rfl (by kernel_rfl) hZq hHeld ?_; simp only [Act.put, sA, sZ, sS]
    refine gU 10 rfl (by kernel_rfl) hZq hHeld ?_; simp only [Act.put, sA, sZ, sS]
    refine gU 11 rfl (by kernel_rfl) hZq hHeld ?_; simp only [Act.put, sA, sZ, sS]
    refine gU 12 rfl (by kernel_rfl) hZq hHeld ?_; simp only [Act.put, sA, sZ, sS]
    refine gU 13 rfl (by kernel_rfl) hZq hHeld ?_; simp only [Act.put, sA, sZ, sS]
    refine gU 14 rfl (by kernel_rfl) hZq hHeld ?_; simp only [Act.put, sA, sZ, sS]
    refine gU 15 rfl (by kernel_rfl) hZq hHeld ?_; simp only [Act.put, sA, sZ, sS]
    refine gU 16 rfl (by kernel_rfl) hZq hHeld ?_; simp only [Act.put, sA, sZ, sS]
    refine gU 17 rfl (by kernel_rfl) hZq hHeld ?_; simp only [Act.put, sA, sZ, sS]
    refine gT 18 rfl (by kernel_rfl) (by intro w' hSw; go_simp <;> rfl) hZq hHeld ?_; simp only [Act.put, sA, sZ, sS]
    refine wpAnyH_done (by kernel_rfl) ?_ _
    go_wp2
    go_ret
    exact ⟨ret_bool HF2.out.symm, inferInstance⟩
  ·have B3 : Hid (okNames r.Stops = true) := by show _ = _; rw [← HF.out, List.drop_eq_nil_of_le (by have := hlen.out; omega)]; rfl
   clear HF
   go_wp2_with fail
   go_loopw [4] (fun i wr => ∃ k : Nat, k ≤ sn1 ∧ i = .int .i64 k ∧ Hid (allFrom (fun i x => okLineS r.Stops.length x && decide (idx (fun y => nameIs x.Name y.Name) r.Lines = (i : Int))) (r.Lines.drop k) k = allFrom (fun i x => okLineS r.Stops.length x && decide (idx (fun y => nameIs x.Name y.Name) r.Lines = (i : Int))) r.Lines 0) ∧ Later wb wr) (fun i _ => sn1 - (intOf i).toNat)
   case atStart => exact ⟨0, by omega, rfl, rfl, by rw [HWB.out]; infer_instance⟩
   case round =>
    clear hX hU
    obtain ⟨k, hk, rfl, HF, hX⟩ := hrel
    have hU : Later w wr := by have := hX; rw [HWB.out] at this; exact Later.trans (w := w) inferInstance this
    have HB0' : ∀ W [Later wb W] (j : Nat), W.cell? ⟨w.heap.size, j, none⟩ = #[.slice sA0 sn0 sc0, .slice sA1 sn1 sc1][j]? := by rw [HWB.out]; exact HB0
    clear HB0
    by_cases hlt : k < sn1
    ·have H := Lib.hid h
     obtain ⟨b, o, xA0, xn0, xc0, xA1, xn1, xc1, x, rfl, hx, hc0, hc1, hc2, hi⟩ := Lines.at_ hP hlt
     have HF1 : Hid (allFrom (fun i x => okLineS r.Stops.length x && decide (idx (fun y => nameIs x.Name y.Name) r.Lines = (i : Int))) r.Lines 0 = ((okLineS r.Stops.length x && decide (idx (fun y => nameIs x.Name y.Name) r.Lines = (k : Int))) && allFrom (fun i x => okLineS r.Stops.length x && decide (idx (fun y => nameIs x.Name y.Name) r.Lines = (i : Int))) (r.Lines.drop (k + 1)) (k + 1))) := by rw [← HF.out, drop_at hx.out]; rfl
     clear HF
     have Hn0 : Hid (sn0 = r.Stops.length) := hlen.out
     by_cases c1 : okLineS sn0 x = true
     ·by_cases c2 : idx (fun y => nameIs x.Name y.Name) r.Lines = k
      ·have HF2 : Hid (allFrom (fun i x => okLineS r.Stops.length x && decide (idx (fun y => nameIs x.Name y.Name) r.Lines = (i : Int))) (r.Lines.drop (k + 1)) (k + 1) = allFrom (fun i x => okLineS r.Stops.length x && decide (idx (fun y => nameIs x.Name y.Name) r.Lines = (i : Int))) r.Lines 0) := by rw [HF1.out, ← hlen.out, c1, decide_eq_true c2]; rfl
       have e2 := bnei_f c2
       clear HF1 c2
       go_wp2_with fail
       go_region_held3 (fun w' => Later w w' ∧ Later wb w') (exact ⟨inferInstance, inferInstance⟩) (first | (go_at_call 152; refine (spec_l2Line hi inferInstance hn15).mono ?_; rintro e w3 ⟨rfl, L3⟩; have hX3 := Later.trans (w := wb) inferInstance L3; have hU3 := Later.trans (w := w) inferInstance L3) | (go_at_call 153; refine (spec_l2LineNamed H.out inferInstance _).mono ?_; rintro e w2 ⟨rfl, L2⟩; have hX2 := Later.trans (w := wb) inferInstance L2; have hU2 := Later.trans (w := w) inferInstance L2))
       go_wp2
       go_roundw
       case rel => exact ⟨k + 1, by omega, by go_num, HF2, inferInstance⟩
       case measure => simp [intOf]; omega
      ·have HF2 : Hid (okNetwork r = false) := okNet_6 (by rw [HF1.out, decide_eq_false c2]; simp)
       have e2 := bnei_t c2
       clear HF1 c2
       go_wp2_with fail
       go_region_held3 (fun w' => Later w w' ∧ Later wb w') (exact ⟨inferInstance, inferInstance⟩) (first | (go_at_call 152; refine (spec_l2Line hi inferInstance hn15).mono ?_; rintro e w3 ⟨rfl, L3⟩; have hX3 := Later.trans (w := wb) inferInstance L3; have hU3 := Later.trans (w := w) inferInstance L3) | (go_at_call 153; refine (spec_l2LineNamed H.out inferInstance _).mono ?_; rintro e w2 ⟨rfl, L2⟩; have hX2 := Later.trans (w := wb) inferInstance L2; have hU2 := Later.trans (w := w) inferInstance L2))
       go_wp2
       go_ret
       exact ⟨ret_bool HF2.out.symm, inferInstance⟩
     ·have c3 : okLineS sn0 x = false := by simpa using c1
      have HF2 : Hid (okNetwork r = false) := okNet_6 (by rw [HF1.out, ← hlen.out, c3]; rfl)
      clear HF1 c1
      go_wp2_with fail
      refine gO (S := (fun w' => Later w w' ∧ Later wb w')) (by kernel_rfl) (by exact ⟨inferInstance, inferInstance⟩) (fun _ _ _ _ _ h => h) (fun hHeld hZq => ?_)
      refine gT 0 rfl (by kernel_rfl) (by intro w' hSw; go_simp <;> rfl) hZq hHeld ?_; simp only [Act.put, sA, sZ, sS]
      refine gT 1 rfl (by kernel_rfl) (by intro w' hSw; go_simp <;> rfl) hZq hHeld ?_; simp only [Act.put, sA, sZ, sS]
      refine gT 2 rfl (by kernel_rfl) (by intro w' hSw; go_simp <;> rfl) hZq hHeld ?_; simp only [Act.put, sA, sZ, sS]
      refine gT 3 rfl (by kernel_rfl) (by intro w' hSw; go_simp <;> rfl) hZq hHeld ?_; simp only [Act.put, sA, sZ, sS]
      refine gT 4 rfl (by kernel_rfl) (by intro w' hSw; go_simp <;> rfl) hZq hHeld ?_; simp only [Act.put, sA, sZ, sS]
      refine gT 5 rfl (by kernel_rfl) (by intro w' hSw; go_simp <;> rfl) hZq hHeld ?_; simp only [Act.put, sA, sZ, sS]
      refine gT 6 rfl (by kernel_rfl) (by intro w' hSw; go_simp <;> rfl) hZq hHeld ?_; simp only [Act.put, sA, sZ, sS]
      refine gT 7 rfl (by kernel_rfl) (by intro w' hSw; go_simp <;> rfl) hZq hHeld ?_; simp only [Act.put, sA, sZ, sS]
      refine gE 8 rfl (by kernel_rfl) (fun K hK => ?_)
      go_simp
      (go_at_call 152; refine (spec_l2Line hi inferInstance hn15).mono ?_; rintro e w3 ⟨rfl, L3⟩; have hX3 := Later.trans (w := wb) inferInstance L3; have hU3 := Later.trans (w := w) inferInstance L3)
      refine hK.out _ _ (by exact ⟨inferInstance, inferInstance⟩) (fun hHeld => ?_)
      try simp only [Act.put, sA, sZ, sS]
      refine gT 9 rfl (by kernel_rfl) (by intro w' hSw; go_simp <;> rfl) hZq hHeld ?_; simp only [Act.put, sA, sZ, sS]
      refine gT 10 rfl (by kernel_rfl) (by intro w' hSw; go_simp <;> rfl) hZq hHeld ?_; simp only [Act.put, sA, sZ, sS]
      refine gU 11 rfl (by kernel_rfl) hZq hHeld ?_; simp only [Act.put, sA, sZ, sS]
      refine gU 12 rfl (by kernel_rfl) hZq hHeld ?_; simp only [Act.put, sA, sZ, sS]
      refine gU 13 rfl (by kernel_rfl) hZq hHeld ?_; simp only [Act.put, sA, sZ, sS]
      refine gU 14 rfl (by kernel_rfl) hZq hHeld ?_; simp only [Act.put, sA, sZ, sS]
      refine gU 15 rfl (by kernel_rfl) hZq hHeld ?_; simp only [Act.put, sA, sZ, sS]
      refine gU 16 rfl (by kernel_rfl) hZq hHeld ?_; simp only [Act.put, sA, sZ, sS]
      refine gU 17 rfl (by kernel_rfl) hZq hHeld ?_; simp only [Act.put, sA, sZ, sS]
      refine gU 18 rfl (by kernel_rfl) hZq hHeld ?_; simp only [Act.put, sA, sZ, sS]
      refine gU 19 rfl (by kernel_rfl) hZq hHeld ?_; simp only [Act.put, sA, sZ, sS]
      refine gU 20 rfl (by kernel_rfl) hZq hHeld ?_; simp only [Act.put, sA, sZ, sS]
      refine gT 21 rfl (by kernel_rfl) (by intro w' hSw; go_simp <;> rfl) hZq hHeld ?_; simp only [Act.put, sA, sZ, sS]
      refine wpAnyH_done (by kernel_rfl) ?_ _
      go_wp2
      go_ret
      exact ⟨ret_bool HF2.out.symm, inferInstance⟩
    ·have HF2 : Hid (okNetwork r = true) := by
      show _ = _
      rw [okNetwork_spec, B1.out, B2.out, B3.out, ← HF.out, List.drop_eq_nil_of_le (by have := hlen1.out; omega)]; rfl
     clear HF
     go_wp2
     go_ret
     exact ⟨ret_bool HF2.out.symm, inferInstance⟩
end Go.Proofs.YtknhebakebmlcaaGreat
namespace Go.Proofs.YtknhebakebmlcaaGreat
open Go Go.RowKit
set_option linter.unusedVariables false
set_option maxRecDepth 100000
set_option linter.unusedSimpArgs false
def cmpI (a b : Int) : Int := if a < b then -1 else if b < a then 1 else 0
theorem cmp_isNaN (a : Int) (w : World) : Calls Tryz.prog 121 #[.int .i64 a] w (RetS (.bool false) w) := by
 have hbb : (a != a) = false := by simp
 go_enter Tryz.func121, Tryz.ntmps121
 go_wp2
 go_ret
 exact ⟨rfl, rfl⟩
theorem cmp_Compare (a b : Int) (w : World) : Calls Tryz.prog 102 #[.int .i64 a, .int .i64 b] w (RetS (.int .i64 (cmpI a b)) w) := by
 by_cases h1 : a < b
 ·rw [show cmpI a b = -1 from if_pos h1]
  go_enter Tryz.func102, Tryz.ntmps102
  go_wp2_with (go_at_call 121; refine (cmp_isNaN _ _).mono ?_; rintro e w' ⟨rfl, rfl⟩)
  go_ret
  exact ⟨rfl, rfl⟩
 by_cases h2 : b < a
 ·rw [show cmpI a b = 1 from by unfold cmpI; rw [if_neg h1, if_pos h2]]
  go_enter Tryz.func102, Tryz.ntmps102
  go_wp2_with (go_at_call 121; refine (cmp_isNaN _ _).mono ?_; rintro e w' ⟨rfl, rfl⟩)
  go_ret
  exact ⟨rfl, rfl⟩
 ·rw [show cmpI a b = 0 from by unfold cmpI; rw [if_neg h1, if_neg h2]]
  go_enter Tryz.func102, Tryz.ntmps102
  go_wp2_with (go_at_call 121; refine (cmp_isNaN _ _).mono ?_; rintro e w' ⟨rfl, rfl⟩)
  go_ret
  exact ⟨rfl, rfl⟩
def orI : List Int → Int
 | [] => 0
 | x :: l => if x = 0 then orI l else x
theorem cmp_Or {w0 w : World} {A : Option Addr} {n c : Nat} {l : List Int} (h : Ints w0 A n c l) (hl : Later w0 w) : Calls Tryz.prog 101 #[.slice A n c] w (Ret (.int .i64 (orI l)) w) := by
 replace h := h.later hl
 have hn := h.le
 have HL := Lib.hid h.len
 go_enter Tryz.func101, Tryz.ntmps101
 go_wp2
 go_loopw [8] (fun i wr => ∃ k : Nat, k ≤ n ∧ i = .int .i64 k ∧ Hid (orI (l.drop k) = orI l) ∧ Later w wr) (fun i _ => n - (intOf i).toNat)
 case atStart => exact ⟨0, by omega, rfl, by show _ = _; rw [List.drop_zero], inferInstance⟩
 case round =>
  obtain ⟨k, hk, rfl, HF, hX⟩ := hrel
  by_cases hlt : k < n
  ·obtain ⟨b, o, x, hA, hx, hc, _⟩ := Ints.at_ h hlt
   subst hA
   have HF1 := HF.out
   rw [drop_at hx.out] at HF1
   simp only [orI] at HF1
   have hki : (k : Int) < n := by omega
   clear HF hx
   by_cases hz : x = 0
   ·rw [if_pos hz] at HF1
    have HF2 := Lib.hid HF1
    subst hz
    clear HF1
    go_wp2
    go_roundw
    case rel => exact ⟨k + 1, by omega, by go_num, HF2, inferInstance⟩
    case measure => simp [intOf]; omega
   ·rw [if_neg hz] at HF1
    have HF2 := Lib.hid HF1
    have e1 := bnei_t hz
    clear HF1
    go_wp2
    go_ret
    exact ⟨ret_int HF2.out, inferInstance⟩
  ·have HF2 : Hid (orI l = 0) := by
    have h9 := HF.out
    rw [List.drop_eq_nil_of_le (by have := HL.out; omega)] at h9
    exact h9.symm
   have hki : ¬ (k : Int) < n := by omega
   go_wp2
   go_ret
   exact ⟨ret_int HF2.out.symm, inferInstance⟩
end Go.Proofs.YtknhebakebmlcaaGreat
