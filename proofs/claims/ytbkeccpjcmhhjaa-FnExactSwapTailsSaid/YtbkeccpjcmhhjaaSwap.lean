/-
  Blocks: tails exchanged (SwapTails).
-/
import Derived.Test.YtbkeccpjcmhhjaaConcat
import Derived.Test.YtbkeccpjcmhhjaaCopyL
import Derived.Test.YtbkeccpjcmhhjaaORow
import Derived.Test.YtbkeccpjcmhhjaaIsPiece
import Derived.Test.YtbkeccpjcmhhjaaRepl
import Derived.Test.YtbkeccpjcmhhjaaPcsSum
namespace Go.Proofs.Ytbkeccpjcmhhjaa
open Go Go.RowKit
set_option linter.unusedVariables false
set_option maxRecDepth 100000
set_option linter.unusedSimpArgs false
def swapA (bs : List (List Int)) (m k : Nat) (x y : List Int) (p q : Nat) : List (List Int) := (bs.set m (x.take (p + 1) ++ y.drop (q + 1))).set k (y.take (q + 1) ++ x.drop (p + 1))
def swapOf (bs : List (List Int)) (a b : Int) : List (List Int) := swapA bs (placeOf 0 a bs).1.toNat (placeOf 0 b bs).1.toNat (blkI bs (placeOf 0 a bs).1) (blkI bs (placeOf 0 b bs).1) (placeOf 0 a bs).2.toNat (placeOf 0 b bs).2.toNat
def swapPre (bs : List (List Int)) (a b : Int) : Bool := decide (0 ≤ (placeOf 0 a bs).1) && decide (0 ≤ (placeOf 0 b bs).1) && decide ((placeOf 0 a bs).1 ≠ (placeOf 0 b bs).1)
def swapRes (t : Timetable) (f : Fleet) (bs : List (List Int)) (a b : Int) : List (List Int) × Bool := if (okBlocks t f bs && swapPre bs a b && okBlk t f (swapOf bs a b)) = true then (swapOf bs a b, true) else ([], false)
theorem Sl.front {α : Type} {sz : Nat} {r : Rep α} {w : World} {A : Option Addr} {n c : Nat} {l : List α} (h : Sl sz r w A n c l) {k : Nat} (hk : k ≤ n) : Sl sz r w A k c (l.take k) := by
  have h1 := h.len
  have h2 := h.cap
  refine ⟨by rw [List.length_take]; omega, by omega, h.max, fun j x hx => ?_⟩
  rw [List.getElem?_take] at hx
  split at hx
  · exact h.el j x hx
  · cases hx
theorem Sl.back {α : Type} {r : Rep α} {w : World} {b o : Nat} {n c : Nat} {l : List α} (h : Sl 1 r w (some ⟨b, o, none⟩) n c l) {k : Nat} (hk : k ≤ n) : Sl 1 r w (if c = k then some ⟨b, o, none⟩ else some ⟨b, o + k, none⟩) (n - k) (c - k) (l.drop k) := by
  have hc := h.cap
  have hl := h.len
  have hm := h.max
  split
  · have hz : l.drop k = [] := List.drop_eq_nil_of_le (by omega)
    exact ⟨by rw [hz]; simp; omega, by omega, by omega, fun j x hx => by rw [hz] at hx; simp at hx⟩
  · have h1 := Sl.sub_ h (k := k) (m := n - k) (by omega)
    rwa [List.take_of_length_le (by rw [List.length_drop]; omega)] at h1
theorem spec_l1OwnR {w0 w : World} {A : Option Addr} {n c : Nat} {l : List Int} (h : Ints w0 A n c l) (hl : Later w0 w) (hn : n ≤ 1073741824) :
    Calls Try.prog 94 #[.slice A n c] w fun e w' => ∃ v, e = .returned v ∧ w'.ownsRow w.heap.size 3 1 v n (l.map (Value.int .i64)) ∧ Later w w' := by
  replace h := h.later hl
  go_enter Try.func94, Try.ntmps94
  go_wp2_with (at_builtin; refine wpList_app_M (w0 := w) (base := w.heap.size) rfl _ _ 111 rfl Try.underlying111 infoInt rfl (World.ownsRow_lit w #[] 0 (Nat.le_refl _) (by simp [maxLen]) rfl) inferInstance (Nat.le_refl _) (by simp) rfl (h.later inferInstance) (by omega) ?_; intro v' w1 hown hX)
  go_ret
  exact ⟨_, rfl, by simpa using hown, hX⟩
set_option maxHeartbeats 4000000 in
theorem spec_SwapTails {w0 w w2 w3 : World} {sA0 : Option Addr} {sn0 sc0 : Nat} {sA1 : Option Addr} {sn1 sc1 : Nat} {sA2 : Option Addr} {sn2 sc2 : Nat} {t : Timetable} (h : TimetableAt w0 sA0 sn0 sc0 sA1 sn1 sc1 sA2 sn2 sc2 t) (hl : Later w0 w) {qA0 : Option Addr} {qn0 qc0 : Nat} {f : Fleet} (h2 : FleetAt w2 qA0 qn0 qc0 f) (hl2 : Later w2 w) {bA : Option Addr} {bn bc : Nat} {bs : List (List Int)} (h3 : Sl 1 (rSl 1 rInt) w3 bA bn bc bs) (hl3 : Later w3 w) (a b' : Int) :
    Calls Try.prog 49 #[.agg #[.slice sA0 sn0 sc0, .slice sA1 sn1 sc1, .slice sA2 sn2 sc2], .agg #[.slice qA0 qn0 qc0, .int .i64 f.Turn], .slice bA bn bc, .int .i64 a, .int .i64 b'] w (RetO2 1 (oSl 1 oInt) (swapRes t f bs a b').1 (swapRes t f bs a b').2 w) := by
  have hB := h3.later hl3
  have HB0 : ∀ W [Later ((w.alloc (.cells #[.slice sA0 sn0 sc0, .slice sA1 sn1 sc1, .slice sA2 sn2 sc2] 67)).alloc (.cells #[.slice qA0 qn0 qc0, .int .i64 f.Turn] 87)) W] (j : Nat), W.cell? ⟨w.heap.size, j, none⟩ = #[.slice sA0 sn0 sc0, .slice sA1 sn1 sc1, .slice sA2 sn2 sc2][j]? := Later.boxes (t := 67) (fr := (0, 0)) ((heap_old (by simp; try omega)).trans (heap_new (by simp; try omega))); have HB1 : ∀ W [Later ((w.alloc (.cells #[.slice sA0 sn0 sc0, .slice sA1 sn1 sc1, .slice sA2 sn2 sc2] 67)).alloc (.cells #[.slice qA0 qn0 qc0, .int .i64 f.Turn] 87)) W] (j : Nat), W.cell? ⟨w.heap.size + 1, j, none⟩ = #[.slice qA0 qn0 qc0, .int .i64 f.Turn][j]? := Later.boxes (t := 87) (fr := (0, 0)) (heap_new (by simp; try omega)); obtain ⟨wb, hwb⟩ : ∃ wb : World, wb = ((w.alloc (.cells #[.slice sA0 sn0 sc0, .slice sA1 sn1 sc1, .slice sA2 sn2 sc2] 67)).alloc (.cells #[.slice qA0 qn0 qc0, .int .i64 f.Turn] 87)) := ⟨_, rfl⟩; haveI hbW : Later wb ((w.alloc (.cells #[.slice sA0 sn0 sc0, .slice sA1 sn1 sc1, .slice sA2 sn2 sc2] 67)).alloc (.cells #[.slice qA0 qn0 qc0, .int .i64 f.Turn] 87)) := (by rw [hwb]; exact Later.rfl_); haveI hww : Later w wb := (by rw [hwb]; infer_instance); rw [← hwb] at HB0; rw [← hwb] at HB1; have hbE := Lib.hid (congrArg (fun x : World => x.heap.size) hwb); clear hwb
  have hwb0 := hl.trans hww
  have hwb2 := hl2.trans hww
  have hwb3 := hl3.trans hww
  have H := Lib.hid h
  have H2 := Lib.hid h2
  have H3 := Lib.hid h3
  clear h h2 h3
  replace hB := hB.later hww
  have hbl := hB.le
  have Hbl := Lib.hid hB.len
  have hbs : wb.heap.size ≤ w.heap.size + 2 := by have := hbE.out; simp at this; omega
  have hbs2 : w.heap.size + 2 ≤ wb.heap.size := by have := hbE.out; simp at this; omega
  by_cases cr : okRun t f = true
  rotate_left
  · have c1 : okRun t f = false := by simpa using cr
    rw [show swapRes t f bs a b' = ([], false) from if_neg (by unfold okBlocks; rw [c1]; simp)]
    clear cr
    have RF : Hid (False ∨ True) := .inr trivial
    go_enter Try.func49, Try.ntmps49
    go_wp2_with first
      | ((with_reducible refine (spec_l11Place H3.out (hwb3.trans inferInstance) a).mono ?_); rintro e w2 ⟨rfl, L2⟩; have X2 := Later.trans (w := wb) inferInstance L2)
      | ((with_reducible refine (spec_l11Place H3.out (hwb3.trans inferInstance) b').mono ?_); rintro e w3 ⟨rfl, L3⟩; have X3 := Later.trans (w := wb) inferInstance L3)
      | (go_at_call 145; refine (spec_l11Asked H.out (hwb0.trans inferInstance) H2.out (hwb2.trans inferInstance)).mono ?_; rintro e w1 ⟨rfl, L1⟩; have X1 := Later.trans (w := wb) inferInstance L1)
      | (go_at_call 146; refine (spec_l11Blocks H.out (hwb0.trans inferInstance) H2.out (hwb2.trans inferInstance) H3.out (hwb3.trans inferInstance) RF.out.time RF.out.fleet).mono ?_; rintro e w6 ⟨rfl, L6⟩; have X6 := Later.trans (w := wb) inferInstance L6)
    go_ret2
    exact ⟨_, _, _, [], rfl, OSl.nil_ _, by simp, by simp, hww.trans inferInstance⟩
  have RF := Lib.hid (runFacts cr)
  by_cases cb : okBlk t f bs = true
  rotate_left
  · have c1 : okBlk t f bs = false := by simpa using cb
    rw [show swapRes t f bs a b' = ([], false) from if_neg (by unfold okBlocks; rw [c1]; simp)]
    clear cb
    go_enter Try.func49, Try.ntmps49
    go_wp2_with first
      | ((with_reducible refine (spec_l11Place H3.out (hwb3.trans inferInstance) a).mono ?_); rintro e w2 ⟨rfl, L2⟩; have X2 := Later.trans (w := wb) inferInstance L2)
      | ((with_reducible refine (spec_l11Place H3.out (hwb3.trans inferInstance) b').mono ?_); rintro e w3 ⟨rfl, L3⟩; have X3 := Later.trans (w := wb) inferInstance L3)
      | (go_at_call 145; refine (spec_l11Asked H.out (hwb0.trans inferInstance) H2.out (hwb2.trans inferInstance)).mono ?_; rintro e w1 ⟨rfl, L1⟩; have X1 := Later.trans (w := wb) inferInstance L1)
      | (go_at_call 146; refine (spec_l11Blocks H.out (hwb0.trans inferInstance) H2.out (hwb2.trans inferInstance) H3.out (hwb3.trans inferInstance) RF.out.time RF.out.fleet).mono ?_; rintro e w6 ⟨rfl, L6⟩; have X6 := Later.trans (w := wb) inferInstance L6)
    go_ret2
    exact ⟨_, _, _, [], rfl, OSl.nil_ _, by simp, by simp, hww.trans inferInstance⟩
  have c0 : okBlocks t f bs = true := by unfold okBlocks; rw [cr, cb]; rfl
  by_cases ca : 0 ≤ (placeOf 0 a bs).1
  rotate_left
  · rw [show swapRes t f bs a b' = ([], false) from if_neg (by unfold swapPre; rw [decide_eq_false ca]; simp)]
    have c2 : (placeOf (-1) a bs).1 < 0 := by have := placeOf_any a bs; omega
    have c3 : decide ((placeOf (-1) a bs).1 < 0) = true := decide_eq_true c2
    clear ca
    go_enter Try.func49, Try.ntmps49
    go_wp2_with first
      | ((with_reducible refine (spec_l11Place H3.out (hwb3.trans inferInstance) a).mono ?_); rintro e w2 ⟨rfl, L2⟩; have X2 := Later.trans (w := wb) inferInstance L2)
      | ((with_reducible refine (spec_l11Place H3.out (hwb3.trans inferInstance) b').mono ?_); rintro e w3 ⟨rfl, L3⟩; have X3 := Later.trans (w := wb) inferInstance L3)
      | (go_at_call 145; refine (spec_l11Asked H.out (hwb0.trans inferInstance) H2.out (hwb2.trans inferInstance)).mono ?_; rintro e w1 ⟨rfl, L1⟩; have X1 := Later.trans (w := wb) inferInstance L1)
      | (go_at_call 146; refine (spec_l11Blocks H.out (hwb0.trans inferInstance) H2.out (hwb2.trans inferInstance) H3.out (hwb3.trans inferInstance) RF.out.time RF.out.fleet).mono ?_; rintro e w6 ⟨rfl, L6⟩; have X6 := Later.trans (w := wb) inferInstance L6)
    go_ret2
    exact ⟨_, _, _, [], rfl, OSl.nil_ _, by simp, by simp, hww.trans inferInstance⟩
  by_cases cc : 0 ≤ (placeOf 0 b' bs).1
  rotate_left
  · rw [show swapRes t f bs a b' = ([], false) from if_neg (by unfold swapPre; rw [decide_eq_false cc]; simp)]
    have c2 : (placeOf (-1) b' bs).1 < 0 := by have := placeOf_any b' bs; omega
    have c3 : decide ((placeOf (-1) b' bs).1 < 0) = true := decide_eq_true c2
    have c4 : ¬ (placeOf (-1) a bs).1 < 0 := by rcases placeOf_any a bs with h | h <;> first | omega | (rw [h.2]; omega)
    have c5 : decide ((placeOf (-1) a bs).1 < 0) = false := decide_eq_false c4
    clear cc ca
    go_enter Try.func49, Try.ntmps49
    go_wp2_with first
      | ((with_reducible refine (spec_l11Place H3.out (hwb3.trans inferInstance) a).mono ?_); rintro e w2 ⟨rfl, L2⟩; have X2 := Later.trans (w := wb) inferInstance L2)
      | ((with_reducible refine (spec_l11Place H3.out (hwb3.trans inferInstance) b').mono ?_); rintro e w3 ⟨rfl, L3⟩; have X3 := Later.trans (w := wb) inferInstance L3)
      | (go_at_call 145; refine (spec_l11Asked H.out (hwb0.trans inferInstance) H2.out (hwb2.trans inferInstance)).mono ?_; rintro e w1 ⟨rfl, L1⟩; have X1 := Later.trans (w := wb) inferInstance L1)
      | (go_at_call 146; refine (spec_l11Blocks H.out (hwb0.trans inferInstance) H2.out (hwb2.trans inferInstance) H3.out (hwb3.trans inferInstance) RF.out.time RF.out.fleet).mono ?_; rintro e w6 ⟨rfl, L6⟩; have X6 := Later.trans (w := wb) inferInstance L6)
    go_ret2
    exact ⟨_, _, _, [], rfl, OSl.nil_ _, by simp, by simp, hww.trans inferInstance⟩
  obtain ⟨m, p, x, hpo, hx, hj⟩ := placeOf_at ca
  obtain ⟨k, q, y, hpo2, hy, hj2⟩ := placeOf_at cc
  have hpa : placeOf (-1) a bs = ((m : Int), (p : Int)) := by rcases placeOf_any a bs with ⟨h1, _⟩ | ⟨_, h2⟩ <;> first | (rw [h2]; exact hpo) | omega
  have hpb : placeOf (-1) b' bs = ((k : Int), (q : Int)) := by rcases placeOf_any b' bs with ⟨h1, _⟩ | ⟨_, h2⟩ <;> first | (rw [h2]; exact hpo2) | omega
  have HPA := Lib.hid hpa
  have HPB := Lib.hid hpb
  by_cases cm : m = k
  · rw [show swapRes t f bs a b' = ([], false) from if_neg (by unfold swapPre; rw [hpo, hpo2, cm]; simp)]
    have e1 := (beqi_t (show (m : Int) = (k : Int) by omega)).1
    subst cm
    clear ca cc hpa hpb hpo hpo2 hx hy hj hj2
    go_enter Try.func49, Try.ntmps49
    go_wp2_with first
      | ((with_reducible refine (spec_l11Place H3.out (hwb3.trans inferInstance) a).mono ?_); rw [HPA.out]; rintro e w2 ⟨rfl, L2⟩; have X2 := Later.trans (w := wb) inferInstance L2)
      | ((with_reducible refine (spec_l11Place H3.out (hwb3.trans inferInstance) b').mono ?_); rw [HPB.out]; rintro e w3 ⟨rfl, L3⟩; have X3 := Later.trans (w := wb) inferInstance L3)
      | (go_at_call 145; refine (spec_l11Asked H.out (hwb0.trans inferInstance) H2.out (hwb2.trans inferInstance)).mono ?_; rintro e w1 ⟨rfl, L1⟩; have X1 := Later.trans (w := wb) inferInstance L1)
      | (go_at_call 146; refine (spec_l11Blocks H.out (hwb0.trans inferInstance) H2.out (hwb2.trans inferInstance) H3.out (hwb3.trans inferInstance) RF.out.time RF.out.fleet).mono ?_; rintro e w6 ⟨rfl, L6⟩; have X6 := Later.trans (w := wb) inferInstance L6)
    go_ret2
    exact ⟨_, _, _, [], rfl, OSl.nil_ _, by simp, by simp, hww.trans inferInstance⟩
  have hso : swapOf bs a b' = swapA bs m k x y p q := by
    unfold swapOf
    rw [hpo, hpo2]
    simp only [blkI_of hx, blkI_of hy, Int.toNat_natCast]
  have hsr : swapRes t f bs a b' = if okBlk t f (swapA bs m k x y p q) = true then (swapA bs m k x y p q, true) else ([], false) := by
    unfold swapRes
    rw [hso, c0]
    have : swapPre bs a b' = true := by unfold swapPre; rw [hpo, hpo2]; simp; omega
    rw [this]
    simp
  have HSR := Lib.hid hsr
  have e1 := (beqi_f (show ¬ (m : Int) = (k : Int) by omega)).1
  have hmn : m < bn := by rw [hB.len]; exact (List.getElem?_eq_some_iff.1 hx).1
  have hkn : k < bn := by rw [hB.len]; exact (List.getElem?_eq_some_iff.1 hy).1
  obtain ⟨b, o, A1, n1, c1, x', rfl, hx', hc0, hi⟩ := Sl.row_ hB hmn
  obtain rfl : x' = x := Option.some.inj (hx'.out.symm.trans hx)
  obtain ⟨b2, o2, A2, n2, c2, y', hA2, hy', hc0', hi'⟩ := Sl.row_ hB hkn
  cases hA2
  obtain rfl : y' = y := Option.some.inj (hy'.out.symm.trans hy)
  have hpn : p < n1 := by rw [hi.len]; exact (List.getElem?_eq_some_iff.1 hj).1
  have hqn : q < n2 := by rw [hi'.len]; exact (List.getElem?_eq_some_iff.1 hj2).1
  obtain ⟨b3, o3, _, rfl, _, _, _⟩ := Ints.at_ hi hpn
  obtain ⟨b4, o4, _, rfl, _, _, _⟩ := Ints.at_ hi' hqn
  have hxl := rows12 c0 x' (List.mem_of_getElem? hx)
  have hyl := rows12 c0 y' (List.mem_of_getElem? hy)
  have hn1 : n1 ≤ 1048576 := by rw [hi.len]; exact hxl
  have hn2 : n2 ≤ 1048576 := by rw [hi'.len]; exact hyl
  obtain ⟨p1, hp1⟩ : ∃ z : Nat, z = p + 1 := ⟨_, rfl⟩
  obtain ⟨q1, hq1⟩ : ∃ z : Nat, z = q + 1 := ⟨_, rfl⟩
  have hcap1 := hi.cap
  have hcap2 := hi'.cap
  have hmx1 := hi.max
  have hmx2 := hi'.max
  have HX1 := Lib.hid (Sl.front hi (show p1 ≤ n1 by omega))
  have HX2 := Lib.hid (Sl.back hi (show p1 ≤ n1 by omega))
  have HY1 := Lib.hid (Sl.front hi' (show q1 ≤ n2 by omega))
  have HY2 := Lib.hid (Sl.back hi' (show q1 ≤ n2 by omega))
  have HR64 := Lib.hid (rows_i64' hB)
  have HX64 : Hid (∀ v, v ∈ x' → I64 v) := HR64.out x' (List.mem_of_getElem? hx)
  have HY64 : Hid (∀ v, v ∈ y' → I64 v) := HR64.out y' (List.mem_of_getElem? hy)
  have hwp : IntKind.i64.wrap ((p : Int) + 1) = (p1 : Int) := by rw [IntKind.wrap_i64]; omega
  have hwq : IntKind.i64.wrap ((q : Int) + 1) = (q1 : Int) := by rw [IntKind.wrap_i64]; omega
  have d0 : (0 : Int) ≤ (p1 : Int) := by omega
  have d00 : (0 : Int) ≤ (q1 : Int) := by omega
  have d1 : (p1 : Int) ≤ (n1 : Int) := by omega
  have d2 : (p1 : Int) ≤ (c1 : Int) := by omega
  have d3 : (q1 : Int) ≤ (n2 : Int) := by omega
  have d4 : (q1 : Int) ≤ (c2 : Int) := by omega
  have hm' : (m : Int) < bn := by omega
  have hk' : (k : Int) < bn := by omega
  obtain ⟨Z, hZ⟩ : ∃ Z, Z = swapA bs m k x' y' p q := ⟨_, rfl⟩
  have hZl : Z.length = bs.length := by rw [hZ]; simp [swapA]
  have hZm : Z[m]? = some (x'.take p1 ++ y'.drop q1) := by
    rw [hZ, hp1, hq1]; unfold swapA
    rw [List.getElem?_set_ne (Ne.symm cm), List.getElem?_set_self (by have := hB.len; omega)]
  have hZk : Z[k]? = some (y'.take q1 ++ x'.drop p1) := by
    rw [hZ, hp1, hq1]; unfold swapA
    rw [List.getElem?_set_self (by rw [List.length_set]; have := hB.len; omega)]
  have hZo : ∀ j, j ≠ m → j ≠ k → Z[j]? = bs[j]? := fun j h1 h2 => by
    rw [hZ]; unfold swapA
    rw [List.getElem?_set_ne (Ne.symm h2), List.getElem?_set_ne (Ne.symm h1)]
  have HZ := Lib.hid (And.intro hZl (And.intro hZm (And.intro hZk hZo)))
  rw [← hZ] at HSR
  have Hcm := Lib.hid cm
  have hb12 : bs.length ≤ 1048576 := Nat.le_trans (deadFacts c0).len (by omega)
  have HB12 := Lib.hid hb12
  clear ca cc hpa hpb hpo hpo2 hx hy hj hj2 hso hsr hx' hy' hi hi' hxl hyl hZ hZl hZm hZk hZo cm hb12 hp1 hq1
  go_enter Try.func49, Try.ntmps49
  go_wp2_with first
    | ((with_reducible refine (spec_l11Place H3.out (hwb3.trans inferInstance) a).mono ?_); rw [HPA.out]; rintro e w2 ⟨rfl, L2⟩; have X2 := Later.trans (w := wb) inferInstance L2)
    | ((with_reducible refine (spec_l11Place H3.out (hwb3.trans inferInstance) b').mono ?_); rw [HPB.out]; rintro e w3 ⟨rfl, L3⟩; have X3 := Later.trans (w := wb) inferInstance L3)
    | (go_at_call 145; refine (spec_l11Asked H.out (hwb0.trans inferInstance) H2.out (hwb2.trans inferInstance)).mono ?_; rintro e w1 ⟨rfl, L1⟩; have X1 := Later.trans (w := wb) inferInstance L1)
    | (go_at_call 146; refine (spec_l11Blocks H.out (hwb0.trans inferInstance) H2.out (hwb2.trans inferInstance) H3.out (hwb3.trans inferInstance) RF.out.time RF.out.fleet).mono ?_; rintro e w6 ⟨rfl, L6⟩; have X6 := Later.trans (w := wb) inferInstance L6)
  go_loopw [16, 17] (fun ov i wr => ∃ j : Nat, j ≤ bn ∧ i = .int .i64 j ∧ Hid (ORows wr (w.heap.size + 2) 111 ov (Z.take j)) ∧ Later wb wr) (fun _ i _ => bn - (intOf i).toNat)
  case atStart => exact ⟨0, by omega, rfl, Lib.hid (show ORows _ _ _ _ [] from ORows.of0 (by simpa using World.ownsRow_lit (base := w.heap.size + 2) (e := 111) (size := 1) w6 #[] 0 (Nat.le_trans hbs2 X6.size) (by simp [maxLen]) rfl)), inferInstance⟩
  case round =>
    obtain ⟨j, hj, rfl, hown, hX⟩ := hrel
    by_cases hlt : j < bn
    · have hle : (Z.take j).length ≤ 1073741824 := by rw [List.length_take]; have := HZ.out.1; have := HB12.out; omega
      by_cases c1 : j = m
      · have e2 := (beqi_t (show (j : Int) = (m : Int) by omega)).1
        have HT := Lib.hid (take_succ_at (c1 ▸ HZ.out.2.1 : Z[j]? = _))
        have H64 : Hid (∀ v, v ∈ x'.take p1 ++ y'.drop q1 → I64 v) := by
          intro v hv
          rcases List.mem_append.1 hv with h | h
          · exact HX64.out v (List.mem_of_mem_take h)
          · exact HY64.out v (List.mem_of_mem_drop h)
        clear c1
        go_wp2_with fail
        refine wp_region_held_drew (S := (fun w' => Later wb w')) (by kernel_rfl) (by exact inferInstance) (fun hHeld => ?_)
        refine wpAnyH_take (i := 0) (v := ?_) (by simp only [List.getElem?_toArray, List.getElem?_cons_zero] <;> rfl) (by kernel_rfl) (by kernel_rfl) (by kernel_rfl) (by exact fun _ _ _ h => h) (Or.inl ⟨by kernel_rfl, ?_⟩) (by assumption) ?_
        rotate_left
        · intro w' hSw; (try dsimp only at hSw); go_simp; try with_reducible rfl
        try simp only [Act.put, List.setIfInBounds_toArray, List.set_cons_zero, List.set_cons_succ]
        refine wpAnyH_take (i := 1) (v := ?_) (by simp only [List.getElem?_toArray, List.getElem?_cons_succ, List.getElem?_cons_zero] <;> rfl) (by kernel_rfl) (by kernel_rfl) (by kernel_rfl) (by exact fun _ _ _ h => h) (Or.inl ⟨by kernel_rfl, ?_⟩) (by assumption) ?_
        rotate_left
        · intro w' hSw; (try dsimp only at hSw); go_simp; try with_reducible rfl
        try simp only [Act.put, List.setIfInBounds_toArray, List.set_cons_zero, List.set_cons_succ]
        refine wpAnyH_take (i := 2) (v := ?_) (by simp only [List.getElem?_toArray, List.getElem?_cons_succ, List.getElem?_cons_zero] <;> rfl) (by kernel_rfl) (by kernel_rfl) (by kernel_rfl) (by exact fun _ _ _ h => h) (Or.inl ⟨by kernel_rfl, ?_⟩) (by assumption) ?_
        rotate_left
        · intro w' hSw; (try dsimp only at hSw); go_simp; try with_reducible rfl
        try simp only [Act.put, List.setIfInBounds_toArray, List.set_cons_zero, List.set_cons_succ]
        refine wpAnyH_take (i := 3) (v := ?_) (by simp only [List.getElem?_toArray, List.getElem?_cons_succ, List.getElem?_cons_zero] <;> rfl) (by kernel_rfl) (by kernel_rfl) (by kernel_rfl) (by exact fun _ _ _ h => h) (Or.inl ⟨by kernel_rfl, ?_⟩) (by assumption) ?_
        rotate_left
        · intro w' hSw; (try dsimp only at hSw); go_simp; try with_reducible rfl
        try simp only [Act.put, List.setIfInBounds_toArray, List.set_cons_zero, List.set_cons_succ]
        refine wpAnyH_take (i := 4) (v := ?_) (by simp only [List.getElem?_toArray, List.getElem?_cons_succ, List.getElem?_cons_zero] <;> rfl) (by kernel_rfl) (by kernel_rfl) (by kernel_rfl) (by exact fun _ _ _ h => h) (Or.inl ⟨by kernel_rfl, ?_⟩) (by assumption) ?_
        rotate_left
        · intro w' hSw; (try dsimp only at hSw); go_simp; try with_reducible rfl
        try simp only [Act.put, List.setIfInBounds_toArray, List.set_cons_zero, List.set_cons_succ]
        refine wpAnyH_take (i := 5) (v := ?_) (by simp only [List.getElem?_toArray, List.getElem?_cons_succ, List.getElem?_cons_zero] <;> rfl) (by kernel_rfl) (by kernel_rfl) (by kernel_rfl) (by exact fun _ _ _ h => h) (Or.inl ⟨by kernel_rfl, ?_⟩) (by assumption) ?_
        rotate_left
        · intro w' hSw; (try dsimp only at hSw); go_simp; try with_reducible rfl
        try simp only [Act.put, List.setIfInBounds_toArray, List.set_cons_zero, List.set_cons_succ]
        refine wpAnyH_take (i := 6) (v := ?_) (by simp only [List.getElem?_toArray, List.getElem?_cons_succ, List.getElem?_cons_zero] <;> rfl) (by kernel_rfl) (by kernel_rfl) (by kernel_rfl) (by exact fun _ _ _ h => h) (Or.inl ⟨by kernel_rfl, ?_⟩) (by assumption) ?_
        rotate_left
        · intro w' hSw; (try dsimp only at hSw); go_simp; try with_reducible rfl
        try simp only [Act.put, List.setIfInBounds_toArray, List.set_cons_zero, List.set_cons_succ]
        refine wpAnyH_take (i := 7) (v := ?_) (by simp only [List.getElem?_toArray, List.getElem?_cons_succ, List.getElem?_cons_zero] <;> rfl) (by kernel_rfl) (by kernel_rfl) (by kernel_rfl) (by exact fun _ _ _ h => h) (Or.inl ⟨by kernel_rfl, ?_⟩) (by assumption) ?_
        rotate_left
        · intro w' hSw; (try dsimp only at hSw); go_simp; try with_reducible rfl
        try simp only [Act.put, List.setIfInBounds_toArray, List.set_cons_zero, List.set_cons_succ]
        refine wpAnyH_take (i := 9) (v := ?_) (by simp only [List.getElem?_toArray, List.getElem?_cons_succ, List.getElem?_cons_zero] <;> rfl) (by kernel_rfl) (by kernel_rfl) (by kernel_rfl) (by exact fun _ _ _ h => h) (Or.inl ⟨by kernel_rfl, ?_⟩) (by assumption) ?_
        rotate_left
        · intro w' hSw; (try dsimp only at hSw); go_simp; try with_reducible rfl
        try simp only [Act.put, List.setIfInBounds_toArray, List.set_cons_zero, List.set_cons_succ]
        refine wpAnyH_take (i := 10) (v := ?_) (by simp only [List.getElem?_toArray, List.getElem?_cons_succ, List.getElem?_cons_zero] <;> rfl) (by kernel_rfl) (by kernel_rfl) (by kernel_rfl) (by exact fun _ _ _ h => h) (Or.inl ⟨by kernel_rfl, ?_⟩) (by assumption) ?_
        rotate_left
        · intro w' hSw; (try dsimp only at hSw); go_simp; try with_reducible rfl
        try simp only [Act.put, List.setIfInBounds_toArray, List.set_cons_zero, List.set_cons_succ]
        refine wpAnyH_take (i := 11) (v := ?_) (by simp only [List.getElem?_toArray, List.getElem?_cons_succ, List.getElem?_cons_zero] <;> rfl) (by kernel_rfl) (by kernel_rfl) (by kernel_rfl) (by exact fun _ _ _ h => h) (Or.inl ⟨by kernel_rfl, ?_⟩) (by assumption) ?_
        rotate_left
        · intro w' hSw; (try dsimp only at hSw); go_simp; try with_reducible rfl
        try simp only [Act.put, List.setIfInBounds_toArray, List.set_cons_zero, List.set_cons_succ]
        refine wpAnyH_take (i := 12) (v := ?_) (by simp only [List.getElem?_toArray, List.getElem?_cons_succ, List.getElem?_cons_zero] <;> rfl) (by kernel_rfl) (by kernel_rfl) (by kernel_rfl) (by exact fun _ _ _ h => h) (Or.inl ⟨by kernel_rfl, ?_⟩) (by assumption) ?_
        rotate_left
        · intro w' hSw; (try dsimp only at hSw); go_simp; try with_reducible rfl
        try simp only [Act.put, List.setIfInBounds_toArray, List.set_cons_zero, List.set_cons_succ]
        refine wpAnyH_take (i := 13) (v := ?_) (by simp only [List.getElem?_toArray, List.getElem?_cons_succ, List.getElem?_cons_zero] <;> rfl) (by kernel_rfl) (by kernel_rfl) (by kernel_rfl) (by exact fun _ _ _ h => h) (Or.inl ⟨by kernel_rfl, ?_⟩) (by assumption) ?_
        rotate_left
        · intro w' hSw; (try dsimp only at hSw); go_simp; try with_reducible rfl
        try simp only [Act.put, List.setIfInBounds_toArray, List.set_cons_zero, List.set_cons_succ]
        refine wpAnyH_take (i := 14) (v := ?_) (by simp only [List.getElem?_toArray, List.getElem?_cons_succ, List.getElem?_cons_zero] <;> rfl) (by kernel_rfl) (by kernel_rfl) (by kernel_rfl) (by exact fun _ _ _ h => h) (Or.inl ⟨by kernel_rfl, ?_⟩) (by assumption) ?_
        rotate_left
        · intro w' hSw; (try dsimp only at hSw); go_simp; try with_reducible rfl
        try simp only [Act.put, List.setIfInBounds_toArray, List.set_cons_zero, List.set_cons_succ]
        refine wpAnyH_take (i := 15) (v := ?_) (by simp only [List.getElem?_toArray, List.getElem?_cons_succ, List.getElem?_cons_zero] <;> rfl) (by kernel_rfl) (by kernel_rfl) (by kernel_rfl) (by exact fun _ _ _ h => h) (Or.inl ⟨by kernel_rfl, ?_⟩) (by assumption) ?_
        rotate_left
        · intro w' hSw; (try dsimp only at hSw); go_simp; try with_reducible rfl
        try simp only [Act.put, List.setIfInBounds_toArray, List.set_cons_zero, List.set_cons_succ]
        refine wpAnyH_ready (rs := [8]) (by kernel_rfl) (by simp) (AllReadyH.cons rfl (fun K hK => ?_) AllReadyH.nil)
        go_simp
        (go_at_call 94; (refine (spec_l1OwnR HX1.out inferInstance (by omega)).mono ?_; rintro e7 w7 ⟨v7, rfl, hown7, L7⟩; have X7 := Later.trans (w := wb) inferInstance L7; have Z7 := Later.trans (w := wr) inferInstance L7))
        refine hK.out _ _ (by exact inferInstance) (fun hHeld => ?_)
        try simp only [Act.put, List.setIfInBounds_toArray, List.set_cons_zero, List.set_cons_succ]
        refine wpAnyH_ready (rs := [16]) (by kernel_rfl) (by simp) (AllReadyH.cons rfl (fun K hK => ?_) AllReadyH.nil)
        refine wp_app_M _ _ 111 rfl Try.underlying111 infoInt (w0 := wr) rfl (hown7) inferInstance (Later.size (w := wr) inferInstance) L7.size rfl (HY2.out.later inferInstance) (by omega) ?_; intro v8 w8 hown8 hX8; have X8 : Later wb w8 := Later.trans hX hX8; obtain ⟨A8, c8, fp8, hov8, ho8, nd8, lo8⟩ := OSl.ints_of_own (by rw [← List.map_append] at hown8; exact hown8) H64.out; subst hov8
        refine hK.out _ _ (by exact inferInstance) (fun hHeld => ?_)
        try simp only [Act.put, List.setIfInBounds_toArray, List.set_cons_zero, List.set_cons_succ]
        refine wpAnyH_ready (rs := [17]) (by kernel_rfl) (by simp) (AllReadyH.cons rfl (fun K hK => ?_) AllReadyH.nil)
        go_simp
        skip
        refine hK.out _ _ (by exact inferInstance) (fun hHeld => ?_)
        try simp only [Act.put, List.setIfInBounds_toArray, List.set_cons_zero, List.set_cons_succ]
        refine wpAnyH_ready (rs := [18]) (by kernel_rfl) (by simp) (AllReadyH.cons rfl (fun K hK => ?_) AllReadyH.nil)
        refine wp_app_R _ _ 25 rfl Try.underlying25 infoRow (by decide) (w0 := wb) (w1 := wr) rfl hown.out inferInstance inferInstance hbs (Nat.le_trans hbs2 hX.size) (ho8.later inferInstance) nd8 (fun g hg => Nat.le_trans (Later.size (w := wr) inferInstance) (lo8 g hg)) rfl hle ?_; intro v' w9 hown' hX9
        refine hK.out _ _ (by exact inferInstance) (fun hHeld => ?_)
        try simp only [Act.put, List.setIfInBounds_toArray, List.set_cons_zero, List.set_cons_succ]
        refine wpAnyH_take (i := 19) (v := ?_) (by simp only [List.getElem?_toArray, List.getElem?_cons_succ, List.getElem?_cons_zero] <;> rfl) (by kernel_rfl) (by kernel_rfl) (by kernel_rfl) (by exact fun _ _ _ h => h) (Or.inl ⟨by kernel_rfl, ?_⟩) (by assumption) ?_
        rotate_left
        · intro w' hSw; (try dsimp only at hSw); go_simp; try with_reducible rfl
        try simp only [Act.put, List.setIfInBounds_toArray, List.set_cons_zero, List.set_cons_succ]
        refine wpAnyH_done (by kernel_rfl) ?_ _
        go_wp2
        go_roundw
        case rel => exact ⟨j + 1, by omega, by go_num, by show ORows _ _ _ _ _; rw [HT.out]; exact hown', inferInstance⟩
        case measure => simp [intOf]; omega
      by_cases c2' : j = k
      · have e2 := (beqi_f (show ¬ (j : Int) = (m : Int) by omega)).1
        have e3 := (beqi_t (show (j : Int) = (k : Int) by omega)).1
        have HT := Lib.hid (take_succ_at (c2' ▸ HZ.out.2.2.1 : Z[j]? = _))
        have H64 : Hid (∀ v, v ∈ y'.take q1 ++ x'.drop p1 → I64 v) := by
          intro v hv
          rcases List.mem_append.1 hv with h | h
          · exact HY64.out v (List.mem_of_mem_take h)
          · exact HX64.out v (List.mem_of_mem_drop h)
        clear c1 c2'
        go_wp2_with fail
        refine wp_region_held_drew (S := (fun w' => Later wb w')) (by kernel_rfl) (by exact inferInstance) (fun hHeld => ?_)
        refine wpAnyH_take (i := 0) (v := ?_) (by simp only [List.getElem?_toArray, List.getElem?_cons_zero] <;> rfl) (by kernel_rfl) (by kernel_rfl) (by kernel_rfl) (by exact fun _ _ _ h => h) (Or.inl ⟨by kernel_rfl, ?_⟩) (by assumption) ?_
        rotate_left
        · intro w' hSw; (try dsimp only at hSw); go_simp; try with_reducible rfl
        try simp only [Act.put, List.setIfInBounds_toArray, List.set_cons_zero, List.set_cons_succ]
        refine wpAnyH_take (i := 1) (v := ?_) (by simp only [List.getElem?_toArray, List.getElem?_cons_succ, List.getElem?_cons_zero] <;> rfl) (by kernel_rfl) (by kernel_rfl) (by kernel_rfl) (by exact fun _ _ _ h => h) (Or.inl ⟨by kernel_rfl, ?_⟩) (by assumption) ?_
        rotate_left
        · intro w' hSw; (try dsimp only at hSw); go_simp; try with_reducible rfl
        try simp only [Act.put, List.setIfInBounds_toArray, List.set_cons_zero, List.set_cons_succ]
        refine wpAnyH_take (i := 2) (v := ?_) (by simp only [List.getElem?_toArray, List.getElem?_cons_succ, List.getElem?_cons_zero] <;> rfl) (by kernel_rfl) (by kernel_rfl) (by kernel_rfl) (by exact fun _ _ _ h => h) (Or.inl ⟨by kernel_rfl, ?_⟩) (by assumption) ?_
        rotate_left
        · intro w' hSw; (try dsimp only at hSw); go_simp; try with_reducible rfl
        try simp only [Act.put, List.setIfInBounds_toArray, List.set_cons_zero, List.set_cons_succ]
        refine wpAnyH_take (i := 3) (v := ?_) (by simp only [List.getElem?_toArray, List.getElem?_cons_succ, List.getElem?_cons_zero] <;> rfl) (by kernel_rfl) (by kernel_rfl) (by kernel_rfl) (by exact fun _ _ _ h => h) (Or.inl ⟨by kernel_rfl, ?_⟩) (by assumption) ?_
        rotate_left
        · intro w' hSw; (try dsimp only at hSw); go_simp; try with_reducible rfl
        try simp only [Act.put, List.setIfInBounds_toArray, List.set_cons_zero, List.set_cons_succ]
        refine wpAnyH_take (i := 4) (v := ?_) (by simp only [List.getElem?_toArray, List.getElem?_cons_succ, List.getElem?_cons_zero] <;> rfl) (by kernel_rfl) (by kernel_rfl) (by kernel_rfl) (by exact fun _ _ _ h => h) (Or.inl ⟨by kernel_rfl, ?_⟩) (by assumption) ?_
        rotate_left
        · intro w' hSw; (try dsimp only at hSw); go_simp; try with_reducible rfl
        try simp only [Act.put, List.setIfInBounds_toArray, List.set_cons_zero, List.set_cons_succ]
        refine wpAnyH_take (i := 5) (v := ?_) (by simp only [List.getElem?_toArray, List.getElem?_cons_succ, List.getElem?_cons_zero] <;> rfl) (by kernel_rfl) (by kernel_rfl) (by kernel_rfl) (by exact fun _ _ _ h => h) (Or.inl ⟨by kernel_rfl, ?_⟩) (by assumption) ?_
        rotate_left
        · intro w' hSw; (try dsimp only at hSw); go_simp; try with_reducible rfl
        try simp only [Act.put, List.setIfInBounds_toArray, List.set_cons_zero, List.set_cons_succ]
        refine wpAnyH_take (i := 6) (v := ?_) (by simp only [List.getElem?_toArray, List.getElem?_cons_succ, List.getElem?_cons_zero] <;> rfl) (by kernel_rfl) (by kernel_rfl) (by kernel_rfl) (by exact fun _ _ _ h => h) (Or.inl ⟨by kernel_rfl, ?_⟩) (by assumption) ?_
        rotate_left
        · intro w' hSw; (try dsimp only at hSw); go_simp; try with_reducible rfl
        try simp only [Act.put, List.setIfInBounds_toArray, List.set_cons_zero, List.set_cons_succ]
        refine wpAnyH_take (i := 7) (v := ?_) (by simp only [List.getElem?_toArray, List.getElem?_cons_succ, List.getElem?_cons_zero] <;> rfl) (by kernel_rfl) (by kernel_rfl) (by kernel_rfl) (by exact fun _ _ _ h => h) (Or.inl ⟨by kernel_rfl, ?_⟩) (by assumption) ?_
        rotate_left
        · intro w' hSw; (try dsimp only at hSw); go_simp; try with_reducible rfl
        try simp only [Act.put, List.setIfInBounds_toArray, List.set_cons_zero, List.set_cons_succ]
        refine wpAnyH_take (i := 9) (v := ?_) (by simp only [List.getElem?_toArray, List.getElem?_cons_succ, List.getElem?_cons_zero] <;> rfl) (by kernel_rfl) (by kernel_rfl) (by kernel_rfl) (by exact fun _ _ _ h => h) (Or.inl ⟨by kernel_rfl, ?_⟩) (by assumption) ?_
        rotate_left
        · intro w' hSw; (try dsimp only at hSw); go_simp; try with_reducible rfl
        try simp only [Act.put, List.setIfInBounds_toArray, List.set_cons_zero, List.set_cons_succ]
        refine wpAnyH_take (i := 10) (v := ?_) (by simp only [List.getElem?_toArray, List.getElem?_cons_succ, List.getElem?_cons_zero] <;> rfl) (by kernel_rfl) (by kernel_rfl) (by kernel_rfl) (by exact fun _ _ _ h => h) (Or.inl ⟨by kernel_rfl, ?_⟩) (by assumption) ?_
        rotate_left
        · intro w' hSw; (try dsimp only at hSw); go_simp; try with_reducible rfl
        try simp only [Act.put, List.setIfInBounds_toArray, List.set_cons_zero, List.set_cons_succ]
        refine wpAnyH_take (i := 11) (v := ?_) (by simp only [List.getElem?_toArray, List.getElem?_cons_succ, List.getElem?_cons_zero] <;> rfl) (by kernel_rfl) (by kernel_rfl) (by kernel_rfl) (by exact fun _ _ _ h => h) (Or.inl ⟨by kernel_rfl, ?_⟩) (by assumption) ?_
        rotate_left
        · intro w' hSw; (try dsimp only at hSw); go_simp; try with_reducible rfl
        try simp only [Act.put, List.setIfInBounds_toArray, List.set_cons_zero, List.set_cons_succ]
        refine wpAnyH_take (i := 12) (v := ?_) (by simp only [List.getElem?_toArray, List.getElem?_cons_succ, List.getElem?_cons_zero] <;> rfl) (by kernel_rfl) (by kernel_rfl) (by kernel_rfl) (by exact fun _ _ _ h => h) (Or.inl ⟨by kernel_rfl, ?_⟩) (by assumption) ?_
        rotate_left
        · intro w' hSw; (try dsimp only at hSw); go_simp; try with_reducible rfl
        try simp only [Act.put, List.setIfInBounds_toArray, List.set_cons_zero, List.set_cons_succ]
        refine wpAnyH_take (i := 13) (v := ?_) (by simp only [List.getElem?_toArray, List.getElem?_cons_succ, List.getElem?_cons_zero] <;> rfl) (by kernel_rfl) (by kernel_rfl) (by kernel_rfl) (by exact fun _ _ _ h => h) (Or.inl ⟨by kernel_rfl, ?_⟩) (by assumption) ?_
        rotate_left
        · intro w' hSw; (try dsimp only at hSw); go_simp; try with_reducible rfl
        try simp only [Act.put, List.setIfInBounds_toArray, List.set_cons_zero, List.set_cons_succ]
        refine wpAnyH_take (i := 14) (v := ?_) (by simp only [List.getElem?_toArray, List.getElem?_cons_succ, List.getElem?_cons_zero] <;> rfl) (by kernel_rfl) (by kernel_rfl) (by kernel_rfl) (by exact fun _ _ _ h => h) (Or.inl ⟨by kernel_rfl, ?_⟩) (by assumption) ?_
        rotate_left
        · intro w' hSw; (try dsimp only at hSw); go_simp; try with_reducible rfl
        try simp only [Act.put, List.setIfInBounds_toArray, List.set_cons_zero, List.set_cons_succ]
        refine wpAnyH_take (i := 15) (v := ?_) (by simp only [List.getElem?_toArray, List.getElem?_cons_succ, List.getElem?_cons_zero] <;> rfl) (by kernel_rfl) (by kernel_rfl) (by kernel_rfl) (by exact fun _ _ _ h => h) (Or.inl ⟨by kernel_rfl, ?_⟩) (by assumption) ?_
        rotate_left
        · intro w' hSw; (try dsimp only at hSw); go_simp; try with_reducible rfl
        try simp only [Act.put, List.setIfInBounds_toArray, List.set_cons_zero, List.set_cons_succ]
        refine wpAnyH_ready (rs := [8]) (by kernel_rfl) (by simp) (AllReadyH.cons rfl (fun K hK => ?_) AllReadyH.nil)
        go_simp
        (go_at_call 94; (refine (spec_l1OwnR HY1.out inferInstance (by omega)).mono ?_; rintro e7 w7 ⟨v7, rfl, hown7, L7⟩; have X7 := Later.trans (w := wb) inferInstance L7; have Z7 := Later.trans (w := wr) inferInstance L7))
        refine hK.out _ _ (by exact inferInstance) (fun hHeld => ?_)
        try simp only [Act.put, List.setIfInBounds_toArray, List.set_cons_zero, List.set_cons_succ]
        refine wpAnyH_ready (rs := [16]) (by kernel_rfl) (by simp) (AllReadyH.cons rfl (fun K hK => ?_) AllReadyH.nil)
        refine wp_app_M _ _ 111 rfl Try.underlying111 infoInt (w0 := wr) rfl (hown7) inferInstance (Later.size (w := wr) inferInstance) L7.size rfl (HX2.out.later inferInstance) (by omega) ?_; intro v8 w8 hown8 hX8; have X8 : Later wb w8 := Later.trans hX hX8; obtain ⟨A8, c8, fp8, hov8, ho8, nd8, lo8⟩ := OSl.ints_of_own (by rw [← List.map_append] at hown8; exact hown8) H64.out; subst hov8
        refine hK.out _ _ (by exact inferInstance) (fun hHeld => ?_)
        try simp only [Act.put, List.setIfInBounds_toArray, List.set_cons_zero, List.set_cons_succ]
        refine wpAnyH_ready (rs := [17]) (by kernel_rfl) (by simp) (AllReadyH.cons rfl (fun K hK => ?_) AllReadyH.nil)
        go_simp
        skip
        refine hK.out _ _ (by exact inferInstance) (fun hHeld => ?_)
        try simp only [Act.put, List.setIfInBounds_toArray, List.set_cons_zero, List.set_cons_succ]
        refine wpAnyH_ready (rs := [18]) (by kernel_rfl) (by simp) (AllReadyH.cons rfl (fun K hK => ?_) AllReadyH.nil)
        refine wp_app_R _ _ 25 rfl Try.underlying25 infoRow (by decide) (w0 := wb) (w1 := wr) rfl hown.out inferInstance inferInstance hbs (Nat.le_trans hbs2 hX.size) (ho8.later inferInstance) nd8 (fun g hg => Nat.le_trans (Later.size (w := wr) inferInstance) (lo8 g hg)) rfl hle ?_; intro v' w9 hown' hX9
        refine hK.out _ _ (by exact inferInstance) (fun hHeld => ?_)
        try simp only [Act.put, List.setIfInBounds_toArray, List.set_cons_zero, List.set_cons_succ]
        refine wpAnyH_take (i := 19) (v := ?_) (by simp only [List.getElem?_toArray, List.getElem?_cons_succ, List.getElem?_cons_zero] <;> rfl) (by kernel_rfl) (by kernel_rfl) (by kernel_rfl) (by exact fun _ _ _ h => h) (Or.inl ⟨by kernel_rfl, ?_⟩) (by assumption) ?_
        rotate_left
        · intro w' hSw; (try dsimp only at hSw); go_simp; try with_reducible rfl
        try simp only [Act.put, List.setIfInBounds_toArray, List.set_cons_zero, List.set_cons_succ]
        refine wpAnyH_done (by kernel_rfl) ?_ _
        go_wp2
        go_roundw
        case rel => exact ⟨j + 1, by omega, by go_num, by show ORows _ _ _ _ _; rw [HT.out]; exact hown', inferInstance⟩
        case measure => simp [intOf]; omega
      · have e2 := (beqi_f (show ¬ (j : Int) = (m : Int) by omega)).1
        have e3 := (beqi_f (show ¬ (j : Int) = (k : Int) by omega)).1
        obtain ⟨b5, o5, A5, n5, c5, z, hA5, hz, hcz, hiz⟩ := Sl.row_ hB hlt
        cases hA5
        have HT := Lib.hid (take_succ_at ((HZ.out.2.2.2 j c1 c2').trans hz.out))
        have hzl : n5 ≤ 1073741824 := by rw [hiz.len]; exact Nat.le_trans (rows12 c0 z (List.mem_of_getElem? hz.out)) (by omega)
        have HIZ := Lib.hid hiz
        clear hiz hz c1 c2'
        go_wp2_with first
          | (go_at_call 94; refine (spec_l1Own HIZ.out inferInstance hzl).mono ?_; rintro e7 w7 ⟨A7, n7, c7, fp7, rfl, ho7, nd7, lo7, L7⟩; have X7 := Later.trans (w := wb) inferInstance L7; have Z7 := Later.trans (w := wr) inferInstance L7)
          | (at_builtin; refine wpList_app_R rfl _ _ 25 rfl Try.underlying25 infoRow (by decide) (w0 := wb) (w1 := wr) rfl hown.out inferInstance inferInstance hbs (Nat.le_trans hbs2 hX.size) (ho7.later inferInstance) nd7 (fun g hg => Nat.le_trans (Later.size (w := wr) inferInstance) (lo7 g hg)) rfl hle ?_; intro v' w9 hown' hX9)
        go_roundw
        case rel => exact ⟨j + 1, by omega, by go_num, by show ORows _ _ _ _ _; rw [HT.out]; exact hown', inferInstance⟩
        case measure => simp [intOf]; omega
    · have hE : Z.take j = Z := List.take_of_length_le (by have := HZ.out.1; have := Hbl.out; omega)
      rw [hE] at hown
      obtain ⟨A9, c9, fp9, hov, ho9, nd9, lo9⟩ := hown.out.shut
      subst hov
      have hrd : Sl 1 (rSl 1 rInt) wr A9 Z.length c9 Z := ho9.reads
      have HRD := Lib.hid hrd
      clear hE hrd hown
      by_cases co : okBlk t f Z = true
      · have HCO := Lib.hid co
        clear co
        go_wp2_with (go_at_call 146; refine (spec_l11Blocks H.out (hwb0.trans inferInstance) H2.out (hwb2.trans inferInstance) HRD.out inferInstance RF.out.time RF.out.fleet).mono ?_; rw [HCO.out]; rintro e w8 ⟨rfl, L8⟩; have X8 := Later.trans (w := wb) inferInstance L8; have Z8 := Later.trans (w := wr) inferInstance L8)
        go_ret2
        rw [HSR.out, if_pos HCO.out]
        exact ⟨A9, _, c9, fp9, rfl, ho9.later inferInstance, nd9, fun g hg => by have := lo9 g hg; omega, hww.trans inferInstance⟩
      · have co' : okBlk t f Z = false := by simpa using co
        have HCO := Lib.hid co'
        clear co co'
        go_wp2_with (go_at_call 146; refine (spec_l11Blocks H.out (hwb0.trans inferInstance) H2.out (hwb2.trans inferInstance) HRD.out inferInstance RF.out.time RF.out.fleet).mono ?_; rw [HCO.out]; rintro e w8 ⟨rfl, L8⟩; have X8 := Later.trans (w := wb) inferInstance L8)
        go_ret2
        rw [HSR.out, if_neg (by rw [HCO.out]; simp)]
        exact ⟨_, _, _, [], rfl, OSl.nil_ _, by simp, by simp, hww.trans inferInstance⟩
end Go.Proofs.Ytbkeccpjcmhhjaa
