/-
  Networks: names and places.
-/
import Derived.Test.YtaopadffabbjiaaNetP
namespace Go.Proofs.Ytaopadffabbjiaa
open Go Go.RowKit
set_option linter.unusedVariables false
set_option maxRecDepth 100000
theorem okChar_low {k : Nat} {b : UInt8} (h1 : 97 ≤ (b.toNat : Int)) (h2 : (b.toNat : Int) ≤ 122) : okChar k b = true := by simp [okChar, isLow]; omega
theorem okChar_dig {k : Nat} {b : UInt8} (h0 : 0 < k) (h1 : 48 ≤ (b.toNat : Int)) (h2 : (b.toNat : Int) ≤ 57) : okChar k b = true := by simp [okChar, isLow, isDig]; omega
theorem okChar_no {k : Nat} {b : UInt8} (h1 : (b.toNat : Int) < 97 ∨ 122 < (b.toNat : Int)) (h2 : k = 0 ∨ (b.toNat : Int) < 48 ∨ 57 < (b.toNat : Int)) : okChar k b = false := by simp [okChar, isLow, isDig]; omega
theorem impl_isName (s : ByteArray) (hs : s.size ≤ 9223372036854775807) (w : World) : Calls Try.prog 147 #[.string s] w (RetS (.bool (okName s)) w) := by
  by_cases h1 : s.size < 1
  · have HN : Hid (okName s = false) := by show _ = _; unfold okName; rw [decide_eq_false (by omega)]; rfl
    go_enter Try.func147, Try.ntmps147
    go_wp2
    go_ret
    exact ⟨ret_bool HN.out.symm, rfl⟩
  by_cases h2 : 8 < s.size
  · have HN : Hid (okName s = false) := by show _ = _; unfold okName; rw [decide_eq_false (by omega)]; rfl
    go_enter Try.func147, Try.ntmps147
    go_wp2
    go_ret
    exact ⟨ret_bool HN.out.symm, rfl⟩
  have h3 : s.size ≤ 8 := by omega
  have h4 : 1 ≤ s.size := by omega
  have HN : Hid (okName s = allFrom okChar s.data.toList 0) := by show _ = _; unfold okName; rw [decide_eq_true (by omega)]; rfl
  clear h1 h2
  go_enter Try.func147, Try.ntmps147
  go_wp2
  go_loop [15] (fun i => ∃ k : Nat, k ≤ s.size ∧ i = .int .i64 k ∧ Hid (allFrom okChar (s.data.toList.drop k) k = allFrom okChar s.data.toList 0)) (fun i => s.size - (intOf i).toNat)
  case atStart => exact ⟨0, by omega, rfl, rfl⟩
  case round =>
    obtain ⟨k, hk, rfl, HF⟩ := hrel
    by_cases hlt : k < s.size
    · have HF1 : Hid (allFrom okChar s.data.toList 0 = (okChar k s[k] && allFrom okChar (s.data.toList.drop (k + 1)) (k + 1))) := by rw [← HF.out, drop_at (bytes_at hlt)]; rfl
      clear HF
      by_cases c1 : 97 ≤ (s[k].toNat : Int)
      · by_cases c2 : (s[k].toNat : Int) ≤ 122
        · have HG := okChar_low (k := k) c1 c2
          have HF2 : Hid (allFrom okChar (s.data.toList.drop (k + 1)) (k + 1) = allFrom okChar s.data.toList 0) := by rw [HF1.out, HG, Bool.true_and]; rfl
          clear HF1 HG
          go_wp2
          go_round
          case rel => exact ⟨k + 1, by omega, by go_num, HF2⟩
          case measure => simp [intOf]; omega
        · by_cases k0 : k = 0
          · subst k0
            have HG := okChar_no (k := 0) (b := s[0]) (.inr (by omega)) (.inl rfl)
            have HF2 : Hid (okName s = false) := by show _ = _; unfold okName; rw [HF1.out, HG]; simp
            clear HF1 HG
            go_wp2
            go_ret
            exact ⟨ret_bool HF2.out.symm, rfl⟩
          · have k1 : ((k : Int) == 0) = false := by simp; omega
            have c3 : 57 < (s[k].toNat : Int) := by omega
            have c4 : ¬ (s[k].toNat : Int) < 48 := by omega
            have HG := okChar_no (k := k) (b := s[k]) (.inr (by omega)) (.inr (.inr (by omega)))
            have HF2 : Hid (okName s = false) := by show _ = _; unfold okName; rw [HF1.out, HG]; simp
            clear HF1 HG
            go_wp2
            go_ret
            exact ⟨ret_bool HF2.out.symm, rfl⟩
      · by_cases k0 : k = 0
        · subst k0
          have HG := okChar_no (k := 0) (b := s[0]) (.inl (by omega)) (.inl rfl)
          have HF2 : Hid (okName s = false) := by show _ = _; unfold okName; rw [HF1.out, HG]; simp
          clear HF1 HG
          go_wp2
          go_ret
          exact ⟨ret_bool HF2.out.symm, rfl⟩
        · have k1 : ((k : Int) == 0) = false := by simp; omega
          by_cases c3 : (s[k].toNat : Int) < 48
          · have HG := okChar_no (k := k) (b := s[k]) (.inl (by omega)) (.inr (.inl (by omega)))
            have HF2 : Hid (okName s = false) := by show _ = _; unfold okName; rw [HF1.out, HG]; simp
            clear HF1 HG
            go_wp2
            go_ret
            exact ⟨ret_bool HF2.out.symm, rfl⟩
          · by_cases c4 : (s[k].toNat : Int) ≤ 57
            · have HG := okChar_dig (k := k) (b := s[k]) (by omega) (by omega) c4
              have HF2 : Hid (allFrom okChar (s.data.toList.drop (k + 1)) (k + 1) = allFrom okChar s.data.toList 0) := by rw [HF1.out, HG, Bool.true_and]; rfl
              clear HF1 HG
              go_wp2
              go_round
              case rel => exact ⟨k + 1, by omega, by go_num, HF2⟩
              case measure => simp [intOf]; omega
            · have HG := okChar_no (k := k) (b := s[k]) (.inl (by omega)) (.inr (.inr (by omega)))
              have HF2 : Hid (okName s = false) := by show _ = _; unfold okName; rw [HF1.out, HG]; simp
              clear HF1 HG
              go_wp2
              go_ret
              exact ⟨ret_bool HF2.out.symm, rfl⟩
    · have HF2 : Hid (okName s = true) := by show _ = _; rw [HN.out, ← HF.out, List.drop_eq_nil_of_le (by simp; omega)]; rfl
      clear HF
      go_wp2
      go_ret
      exact ⟨ret_bool HF2.out.symm, rfl⟩

theorem spec_l2Name (s : ByteArray) (hs : s.size ≤ 9223372036854775807) (w : World) : Calls Try.prog 129 #[.string s] w (RetS (.bool (okName s)) w) := by
  by_cases hb : 1 ≤ s.size ∧ s.size ≤ 8
  rotate_left
  · have HN : Hid (okName s = false) := by show _ = _; unfold okName; rw [decide_eq_false hb]; rfl
    have hb0 : inB s.size 1 8 = false := by rw [inB_f]; omega
    clear hb
    go_enter Try.func129, Try.ntmps129
    go_wp2_with (go_at_call 55; refine (spec_l1In _ _ _ _).mono ?_; rintro e w' ⟨rfl, rfl⟩)
    go_ret
    exact ⟨ret_bool HN.out.symm, rfl⟩
  have HN : Hid (okName s = allFrom okChar s.data.toList 0) := by show _ = _; unfold okName; rw [decide_eq_true hb]; rfl
  have h3 := hb.1
  have h4 := hb.2
  have hb0 : inB s.size 1 8 = true := by rw [inB_t]; omega
  clear hb
  have H0 : Hid (allFrom okChar s.data.toList 0 = (okChar 0 s[0] && allFrom okChar (s.data.toList.drop 1) 1)) := by
    show _ = _
    rw [show s.data.toList = s.data.toList.drop 0 from rfl, drop_at (bytes_at (show 0 < s.size by omega))]; rfl
  by_cases c1 : 97 ≤ (s[0].toNat : Int)
  rotate_left
  · have hg := okChar_no (k := 0) (b := s[0]) (.inl (by omega)) (.inl rfl)
    have HN2 : Hid (okName s = false) := by show _ = _; rw [HN.out, H0.out, hg]; rfl
    clear hg H0
    go_enter Try.func129, Try.ntmps129
    go_wp2_with (go_at_call 55; refine (spec_l1In _ _ _ _).mono ?_; rintro e w' ⟨rfl, rfl⟩)
    go_ret
    exact ⟨ret_bool HN2.out.symm, rfl⟩
  by_cases c2 : (s[0].toNat : Int) ≤ 122
  rotate_left
  · have hg := okChar_no (k := 0) (b := s[0]) (.inr (by omega)) (.inl rfl)
    have HN2 : Hid (okName s = false) := by show _ = _; rw [HN.out, H0.out, hg]; rfl
    clear hg H0
    go_enter Try.func129, Try.ntmps129
    go_wp2_with (go_at_call 55; refine (spec_l1In _ _ _ _).mono ?_; rintro e w' ⟨rfl, rfl⟩)
    go_ret
    exact ⟨ret_bool HN2.out.symm, rfl⟩
  clear H0
  go_enter Try.func129, Try.ntmps129
  go_wp2_with (go_at_call 55; refine (spec_l1In _ _ _ _).mono ?_; rintro e w' ⟨rfl, rfl⟩)
  go_loop [3] (fun i => ∃ k : Nat, k ≤ s.size ∧ i = .int .i64 k ∧ Hid (allFrom okChar (s.data.toList.drop k) k = allFrom okChar s.data.toList 0)) (fun i => s.size - (intOf i).toNat)
  case atStart => exact ⟨0, by omega, rfl, rfl⟩
  case round =>
    obtain ⟨k, hk, rfl, HF⟩ := hrel
    by_cases hlt : k < s.size
    · have HF1 : Hid (allFrom okChar s.data.toList 0 = (okChar k s[k] && allFrom okChar (s.data.toList.drop (k + 1)) (k + 1))) := by rw [← HF.out, drop_at (bytes_at hlt)]; rfl
      clear HF
      by_cases d1 : 97 ≤ (s[k].toNat : Int)
      · by_cases d2 : (s[k].toNat : Int) ≤ 122
        · have HG := okChar_low (k := k) d1 d2
          have HF2 : Hid (allFrom okChar (s.data.toList.drop (k + 1)) (k + 1) = allFrom okChar s.data.toList 0) := by rw [HF1.out, HG, Bool.true_and]; rfl
          clear HF1 HG
          go_wp2
          go_round
          case rel => exact ⟨k + 1, by omega, by go_num, HF2⟩
          case measure => simp [intOf]; omega
        · have k0 : 0 < k := Nat.pos_of_ne_zero fun e => by subst e; omega
          have c3 : 57 < (s[k].toNat : Int) := by omega
          have c4 : ¬ (s[k].toNat : Int) < 48 := by omega
          have HG := okChar_no (k := k) (b := s[k]) (.inr (by omega)) (.inr (.inr (by omega)))
          have HF2 : Hid (okName s = false) := by show _ = _; unfold okName; rw [HF1.out, HG]; simp
          clear HF1 HG
          go_wp2
          go_ret
          exact ⟨ret_bool HF2.out.symm, rfl⟩
      · have k0 : 0 < k := Nat.pos_of_ne_zero fun e => by subst e; omega
        by_cases c3 : (s[k].toNat : Int) < 48
        · have HG := okChar_no (k := k) (b := s[k]) (.inl (by omega)) (.inr (.inl (by omega)))
          have HF2 : Hid (okName s = false) := by show _ = _; unfold okName; rw [HF1.out, HG]; simp
          clear HF1 HG
          go_wp2
          go_ret
          exact ⟨ret_bool HF2.out.symm, rfl⟩
        · by_cases c4 : (s[k].toNat : Int) ≤ 57
          · have HG := okChar_dig (k := k) (b := s[k]) (by omega) (by omega) c4
            have HF2 : Hid (allFrom okChar (s.data.toList.drop (k + 1)) (k + 1) = allFrom okChar s.data.toList 0) := by rw [HF1.out, HG, Bool.true_and]; rfl
            clear HF1 HG
            go_wp2
            go_round
            case rel => exact ⟨k + 1, by omega, by go_num, HF2⟩
            case measure => simp [intOf]; omega
          · have HG := okChar_no (k := k) (b := s[k]) (.inl (by omega)) (.inr (.inr (by omega)))
            have HF2 : Hid (okName s = false) := by show _ = _; unfold okName; rw [HF1.out, HG]; simp
            clear HF1 HG
            go_wp2
            go_ret
            exact ⟨ret_bool HF2.out.symm, rfl⟩
    · have HF2 : Hid (okName s = true) := by show _ = _; rw [HN.out, ← HF.out, List.drop_eq_nil_of_le (by simp; omega)]; rfl
      clear HF
      go_wp2
      go_ret
      exact ⟨ret_bool HF2.out.symm, rfl⟩
theorem beqi_t {a b : Int} (h : a = b) : (a == b) = true ∧ (b == a) = true := by simp [h]
theorem beqi_f {a b : Int} (h : ¬ a = b) : (a == b) = false ∧ (b == a) = false := by simp [h, Ne.symm h]
theorem beqs_t {a b : ByteArray} (h : a = b) : (a.toList == b.toList) = true ∧ (b.toList == a.toList) = true := ⟨strL_eq h, strL_eq h.symm⟩
theorem beqs_f {a b : ByteArray} (h : ¬ a = b) : (a.toList == b.toList) = false ∧ (b.toList == a.toList) = false := ⟨strL_ne h, strL_ne (Ne.symm h)⟩
theorem slices_IndexInt {w0 w : World} {A : Option Addr} {n c : Nat} {l : List Int} (h : Ints w0 A n c l) (hl : Later w0 w) (v : Int) :
    Calls Try.prog 104 #[.slice A n c, .int .i64 v] w (Ret (.int .i64 (idx (intIs v) l)) w) := by
  replace h := h.later hl
  have hn := h.le
  have Hl := Lib.hid h.len
  go_enter Try.func104, Try.ntmps104
  go_wp2
  go_loopw [8] (fun i wr => ∃ k : Nat, k ≤ n ∧ i = .int .i64 k ∧ Hid (idxGo (intIs v) (l.drop k) k = idx (intIs v) l) ∧ Later w wr) (fun i _ => n - (intOf i).toNat)
  case atStart => exact ⟨0, by omega, rfl, rfl, inferInstance⟩
  case round =>
    obtain ⟨k, hk, rfl, HF, hX⟩ := hrel
    have hXw := Later.trans (w := w) inferInstance hX
    by_cases hlt : k < n
    · obtain ⟨b, o, x, rfl, hx, hc, hi⟩ := Ints.at_ h hlt
      have HF1 := HF.out
      rw [drop_at hx.out] at HF1
      simp only [idxGo] at HF1
      clear HF
      by_cases hxy : x = v
      · rw [if_pos (by (first | simpa [nameIs, intIs] using hxy | simpa [idIs] using hxy))] at HF1
        have HF2 := Lib.hid HF1
        clear HF1
        obtain ⟨e1, e2⟩ := beqi_t hxy
        clear hxy
        go_wp2
        go_ret
        exact ⟨ret_int HF2.out, inferInstance⟩
      · rw [if_neg (by (first | simpa [nameIs, intIs] using hxy | simpa [idIs] using hxy))] at HF1
        have HF2 := Lib.hid HF1
        clear HF1
        obtain ⟨e1, e2⟩ := beqi_f hxy
        clear hxy
        go_wp2
        go_roundw
        case rel => exact ⟨k + 1, by omega, by go_num, HF2, inferInstance⟩
        case measure => simp [intOf]; omega
    · have HF2 : Hid (-1 = idx (intIs v) l) := by
        have h3 := HF.out
        rw [List.drop_eq_nil_of_le (by have := Hl.out; omega)] at h3
        exact h3
      clear HF
      go_wp2
      go_ret
      exact ⟨ret_int HF2.out, inferInstance⟩
theorem slices_IndexStr {w0 w : World} {A : Option Addr} {n c : Nat} {l : List ByteArray} (h : Strs w0 A n c l) (hl : Later w0 w) (v : ByteArray) :
    Calls Try.prog 148 #[.slice A n c, .string v] w (Ret (.int .i64 (idx (nameIs v) l)) w) := by
  replace h := h.later hl
  have hn := h.le
  have Hl := Lib.hid h.len
  go_enter Try.func148, Try.ntmps148
  go_wp2
  go_loopw [8] (fun i wr => ∃ k : Nat, k ≤ n ∧ i = .int .i64 k ∧ Hid (idxGo (nameIs v) (l.drop k) k = idx (nameIs v) l) ∧ Later w wr) (fun i _ => n - (intOf i).toNat)
  case atStart => exact ⟨0, by omega, rfl, rfl, inferInstance⟩
  case round =>
    obtain ⟨k, hk, rfl, HF, hX⟩ := hrel
    have hXw := Later.trans (w := w) inferInstance hX
    by_cases hlt : k < n
    · obtain ⟨b, o, x, rfl, hx, hc, hi⟩ := Strs.at_ h hlt
      have HF1 := HF.out
      rw [drop_at hx.out] at HF1
      simp only [idxGo] at HF1
      clear HF
      by_cases hxy : x = v
      · rw [if_pos (by (first | simpa [nameIs, intIs] using hxy | simpa [idIs] using hxy))] at HF1
        have HF2 := Lib.hid HF1
        clear HF1
        obtain ⟨e1, e2⟩ := beqs_t hxy
        clear hxy
        go_wp2
        go_ret
        exact ⟨ret_int HF2.out, inferInstance⟩
      · rw [if_neg (by (first | simpa [nameIs, intIs] using hxy | simpa [idIs] using hxy))] at HF1
        have HF2 := Lib.hid HF1
        clear HF1
        obtain ⟨e1, e2⟩ := beqs_f hxy
        clear hxy
        go_wp2
        go_roundw
        case rel => exact ⟨k + 1, by omega, by go_num, HF2, inferInstance⟩
        case measure => simp [intOf]; omega
    · have HF2 : Hid (-1 = idx (nameIs v) l) := by
        have h3 := HF.out
        rw [List.drop_eq_nil_of_le (by have := Hl.out; omega)] at h3
        exact h3
      clear HF
      go_wp2
      go_ret
      exact ⟨ret_int HF2.out, inferInstance⟩
theorem spec_l2Find {w0 w : World} {A : Option Addr} {n c : Nat} {l : List ByteArray} (h : Strs w0 A n c l) (hl : Later w0 w) (v : ByteArray) :
    Calls Try.prog 130 #[.slice A n c, .string v] w (Ret (.int .i64 (idx (nameIs v) l)) w) := by
  replace h := h.later hl
  have hn := h.le
  have Hl := Lib.hid h.len
  go_enter Try.func130, Try.ntmps130
  go_wp2
  go_loopw [5] (fun i wr => ∃ k : Nat, k ≤ n ∧ i = .int .i64 k ∧ Hid (idxGo (nameIs v) (l.drop k) k = idx (nameIs v) l) ∧ Later w wr) (fun i _ => n - (intOf i).toNat)
  case atStart => exact ⟨0, by omega, rfl, rfl, inferInstance⟩
  case round =>
    obtain ⟨k, hk, rfl, HF, hX⟩ := hrel
    have hXw := Later.trans (w := w) inferInstance hX
    by_cases hlt : k < n
    · obtain ⟨b, o, x, rfl, hx, hc, hi⟩ := Strs.at_ h hlt
      have HF1 := HF.out
      rw [drop_at hx.out] at HF1
      simp only [idxGo] at HF1
      clear HF
      by_cases hxy : x = v
      · rw [if_pos (by (first | simpa [nameIs, intIs] using hxy | simpa [idIs] using hxy))] at HF1
        have HF2 := Lib.hid HF1
        clear HF1
        obtain ⟨e1, e2⟩ := beqs_t hxy
        clear hxy
        go_wp2
        go_ret
        exact ⟨ret_int HF2.out, inferInstance⟩
      · rw [if_neg (by (first | simpa [nameIs, intIs] using hxy | simpa [idIs] using hxy))] at HF1
        have HF2 := Lib.hid HF1
        clear HF1
        obtain ⟨e1, e2⟩ := beqs_f hxy
        clear hxy
        go_wp2
        go_roundw
        case rel => exact ⟨k + 1, by omega, by go_num, HF2, inferInstance⟩
        case measure => simp [intOf]; omega
    · have HF2 : Hid (-1 = idx (nameIs v) l) := by
        have h3 := HF.out
        rw [List.drop_eq_nil_of_le (by have := Hl.out; omega)] at h3
        exact h3
      clear HF
      go_wp2
      go_ret
      exact ⟨ret_int HF2.out, inferInstance⟩
theorem spec_l2Place {w0 w : World} {sA0 : Option Addr} {sn0 sc0 : Nat} {sA1 : Option Addr} {sn1 sc1 : Nat} {r : Line} (h : LineAt w0 sA0 sn0 sc0 sA1 sn1 sc1 r) (hl : Later w0 w) (v : Int) :
    Calls Try.prog 141 #[.agg #[.string r.Name, .slice sA0 sn0 sc0, .slice sA1 sn1 sc1], .int .i64 v] w (Ret (.int .i64 (idx (intIs v) r.Stops)) w) := by
  replace h := h.later hl
  have hS := h.l_Stops
  have hn := hS.le
  have Hl := Lib.hid hS.len
  have HB0 : ∀ W [Later (w.alloc (.cells #[.string r.Name, .slice sA0 sn0 sc0, .slice sA1 sn1 sc1] 109)) W] (j : Nat), W.cell? ⟨w.heap.size, j, none⟩ = #[.string r.Name, .slice sA0 sn0 sc0, .slice sA1 sn1 sc1][j]? := Later.boxes (t := 109) (fr := (0, 0)) (heap_new (by simp; try omega))
  go_enter Try.func141, Try.ntmps141
  go_wp2
  go_loopw [5] (fun i wr => ∃ k : Nat, k ≤ sn0 ∧ i = .int .i64 k ∧ Hid (idxGo (intIs v) (r.Stops.drop k) k = idx (intIs v) r.Stops) ∧ Later (w.alloc (.cells #[.string r.Name, .slice sA0 sn0 sc0, .slice sA1 sn1 sc1] 109)) wr) (fun i _ => sn0 - (intOf i).toNat)
  case atStart => exact ⟨0, by omega, rfl, rfl, inferInstance⟩
  case round =>
    obtain ⟨k, hk, rfl, HF, hX⟩ := hrel
    have hXw := Later.trans (w := w) inferInstance hX
    by_cases hlt : k < sn0
    · obtain ⟨b, o, x, rfl, hx, hc, hi⟩ := Ints.at_ hS hlt
      have HF1 := HF.out
      rw [drop_at hx.out] at HF1
      simp only [idxGo] at HF1
      clear HF
      by_cases hxy : x = v
      · rw [if_pos (by (first | simpa [nameIs, intIs] using hxy | simpa [idIs] using hxy))] at HF1
        have HF2 := Lib.hid HF1
        clear HF1
        obtain ⟨e1, e2⟩ := beqi_t hxy
        clear hxy
        go_wp2
        go_ret
        exact ⟨ret_int HF2.out, inferInstance⟩
      · rw [if_neg (by (first | simpa [nameIs, intIs] using hxy | simpa [idIs] using hxy))] at HF1
        have HF2 := Lib.hid HF1
        clear HF1
        obtain ⟨e1, e2⟩ := beqi_f hxy
        clear hxy
        go_wp2
        go_roundw
        case rel => exact ⟨k + 1, by omega, by go_num, HF2, inferInstance⟩
        case measure => simp [intOf]; omega
    · have HF2 : Hid (-1 = idx (intIs v) r.Stops) := by
        have h3 := HF.out
        rw [List.drop_eq_nil_of_le (by have := Hl.out; omega)] at h3
        exact h3
      clear HF
      go_wp2
      go_ret
      exact ⟨ret_int HF2.out, inferInstance⟩
theorem spec_l2LineNamed {w0 w : World} {sA0 : Option Addr} {sn0 sc0 : Nat} {sA1 : Option Addr} {sn1 sc1 : Nat} {r : Network} (h : NetworkAt w0 sA0 sn0 sc0 sA1 sn1 sc1 r) (hl : Later w0 w) (v : ByteArray) :
    Calls Try.prog 132 #[.agg #[.slice sA0 sn0 sc0, .slice sA1 sn1 sc1], .string v] w (Ret (.int .i64 (idx (fun x => nameIs v x.Name) r.Lines)) w) := by
  replace h := h.later hl
  have hS := h.l_Lines
  have hn := hS.le
  have Hl := Lib.hid hS.len
  have HB0 : ∀ W [Later (w.alloc (.cells #[.slice sA0 sn0 sc0, .slice sA1 sn1 sc1] 38)) W] (j : Nat), W.cell? ⟨w.heap.size, j, none⟩ = #[.slice sA0 sn0 sc0, .slice sA1 sn1 sc1][j]? := Later.boxes (t := 38) (fr := (0, 0)) (heap_new (by simp; try omega))
  go_enter Try.func132, Try.ntmps132
  go_wp2
  go_loopw [5] (fun i wr => ∃ k : Nat, k ≤ sn1 ∧ i = .int .i64 k ∧ Hid (idxGo (fun x => nameIs v x.Name) (r.Lines.drop k) k = idx (fun x => nameIs v x.Name) r.Lines) ∧ Later (w.alloc (.cells #[.slice sA0 sn0 sc0, .slice sA1 sn1 sc1] 38)) wr) (fun i _ => sn1 - (intOf i).toNat)
  case atStart => exact ⟨0, by omega, rfl, rfl, inferInstance⟩
  case round =>
    obtain ⟨k, hk, rfl, HF, hX⟩ := hrel
    have hXw := Later.trans (w := w) inferInstance hX
    by_cases hlt : k < sn1
    · obtain ⟨b, o, xA0, xn0, xc0, xA1, xn1, xc1, x, rfl, hx, hc0, hc1, hc2, hi⟩ := Lines.at_ hS hlt
      have HF1 := HF.out
      rw [drop_at hx.out] at HF1
      simp only [idxGo] at HF1
      clear HF
      by_cases hxy : x.Name = v
      · rw [if_pos (by (first | simpa [nameIs, intIs] using hxy | simpa [idIs] using hxy))] at HF1
        have HF2 := Lib.hid HF1
        clear HF1
        obtain ⟨e1, e2⟩ := beqs_t hxy
        clear hxy
        go_wp2
        go_ret
        exact ⟨ret_int HF2.out, inferInstance⟩
      · rw [if_neg (by (first | simpa [nameIs, intIs] using hxy | simpa [idIs] using hxy))] at HF1
        have HF2 := Lib.hid HF1
        clear HF1
        obtain ⟨e1, e2⟩ := beqs_f hxy
        clear hxy
        go_wp2
        go_roundw
        case rel => exact ⟨k + 1, by omega, by go_num, HF2, inferInstance⟩
        case measure => simp [intOf]; omega
    · have HF2 : Hid (-1 = idx (fun x => nameIs v x.Name) r.Lines) := by
        have h3 := HF.out
        rw [List.drop_eq_nil_of_le (by have := Hl.out; omega)] at h3
        exact h3
      clear HF
      go_wp2
      go_ret
      exact ⟨ret_int HF2.out, inferInstance⟩
end Go.Proofs.Ytaopadffabbjiaa
