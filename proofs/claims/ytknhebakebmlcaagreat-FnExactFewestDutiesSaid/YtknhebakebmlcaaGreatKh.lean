/-
 Helpers of the statements on Duty. Printed by a program of ours (gen_struct.py).
 Helpers of the statements on slices of duties: copy, size, equality.
 Helpers of the statements on slices of duties: marks.
-/
import Derived.Test.YtknhebakebmlcaaGreatJh
namespace Go.Proofs.YtknhebakebmlcaaGreat
open Go Go.RowKit
set_option linter.unusedVariables false
set_option maxRecDepth 100000
theorem laws_eqDuty {w0 w1 w : World} {sA0 : Option Addr} {sn0 sc0 : Nat} {qA0 : Option Addr} {qn0 qc0 : Nat} {a b : Duty} (ha : DutyAt w0 sA0 sn0 sc0 a) (hla : Later w0 w) (hb : DutyAt w1 qA0 qn0 qc0 b) (hlb : Later w1 w) :
  Calls Tryz.prog 42 #[.agg #[.slice sA0 sn0 sc0], .agg #[.slice qA0 qn0 qc0]] w (Ret (.bool (decide (a = b))) w) := by
 replace ha := ha.later hla
 replace hb := hb.later hlb
 have HB0 : ∀ W [Later ((w.alloc (.cells #[.slice sA0 sn0 sc0] 76)).alloc (.cells #[.slice qA0 qn0 qc0] 76)) W] (j : Nat), W.cell? ⟨w.heap.size, j, none⟩ = #[.slice sA0 sn0 sc0][j]? := Later.boxes (t := 76) (fr := (0, 0)) ((heap_old (by simp; try omega)).trans (heap_new (by simp; try omega))); have HB1 : ∀ W [Later ((w.alloc (.cells #[.slice sA0 sn0 sc0] 76)).alloc (.cells #[.slice qA0 qn0 qc0] 76)) W] (j : Nat), W.cell? ⟨w.heap.size + 1, j, none⟩ = #[.slice qA0 qn0 qc0][j]? := Later.boxes (t := 76) (fr := (0, 0)) (heap_new (by simp; try omega))
 go_enter Tryz.func42, Tryz.ntmps42
 go_wp2_with fail
 refine (laws_eqIntSS ha.l_Pieces inferInstance hb.l_Pieces inferInstance).mono ?_
 rintro e w2 ⟨rfl, hL0⟩
 have hX0 := Later.trans (w := ((w.alloc (.cells #[.slice sA0 sn0 sc0] 76)).alloc (.cells #[.slice qA0 qn0 qc0] 76))) inferInstance hL0
 have hU0 := Later.trans (w := w) inferInstance hX0
 by_cases q0 : a.Pieces = b.Pieces
 rotate_left
 ·have hd0 : decide (a.Pieces = b.Pieces) = false := decide_eq_false q0
  have HN : Hid (a ≠ b) := fun e => q0 (by rw [e])
  clear q0
  go_wp2
  go_ret
  exact ⟨ret_bool (decide_eq_false HN.out).symm, inferInstance⟩
 have hd0 : decide (a.Pieces = b.Pieces) = true := decide_eq_true q0
 have HQ0 := Lib.hid q0
 clear q0
 go_wp2
 go_ret
 refine ⟨ret_bool (decide_eq_true ?_).symm, inferInstance⟩
 have e0 := HQ0.out
 cases a; cases b; simp_all
def mkDuty (k : Int) (t : Duty) : Duty := { t with Pieces := mkRows k t.Pieces }
end Go.Proofs.YtknhebakebmlcaaGreat
namespace Go.Proofs.YtknhebakebmlcaaGreat
open Go Go.RowKit
set_option linter.unusedVariables false
set_option maxRecDepth 100000
theorem laws_eqDutyS {w0 w1 w : World} {A B : Option Addr} {n c m d : Nat} {l r : List Duty} (h : Dutys w0 A n c l) (hl : Later w0 w) (h1 : Dutys w1 B m d r) (hl1 : Later w1 w) :
  Calls Tryz.prog 19 #[.slice A n c, .slice B m d] w (Ret (.bool (decide (l = r))) w) := by
 replace h := h.later hl
 replace h1 := h1.later hl1
 have hn := h.le
 have hm := h1.le
 by_cases hnm : n = m
 ·subst hnm
  have hcont : ((n : Int) != n) = false := by simp
  go_enter Tryz.func19, Tryz.ntmps19
  go_wp2
  go_loopw [5] (fun i wr => ∃ k : Nat, k ≤ n ∧ i = .int .i64 k ∧ Hid (l.drop k = r.drop k ↔ l = r) ∧ Later w wr) (fun i _ => n - (intOf i).toNat)
  case atStart => exact ⟨0, by omega, rfl, Iff.rfl, inferInstance⟩
  case round =>
   obtain ⟨k, hk, rfl, HF, hX⟩ := hrel
   by_cases hlt : k < n
   ·obtain ⟨b, o, xA0, xn0, xc0, x, rfl, hx, hc0, hi⟩ := Dutys.at_ h hlt
    obtain ⟨b', o', yA0, yn0, yc0, y, rfl, hy, hc0', hi'⟩ := Dutys.at_ h1 hlt
    have hd := drop_at hx.out
    have hd' := drop_at hy.out
    have HI := Lib.hid hi
    have HI' := Lib.hid hi'
    clear hi hi'
    by_cases hxy : x = y
    ·have HF2 : Hid (l.drop (k + 1) = r.drop (k + 1) ↔ l = r) := by rw [← HF.out, hd, hd', hxy]; show _ ↔ _; simp
     have hb : decide (x = y) = true := by simpa using hxy
     clear hxy hd hd'
     go_wp2_with fail
     go_still_tail 8, (by kernel_rfl)
     change wpList _ _ _ _ _ wr.drew
     go_wp2_with fail
     refine (laws_eqDuty HI.out inferInstance HI'.out inferInstance).mono ?_
     rintro e w2 ⟨rfl, hL⟩
     have hY := Later.trans (w := w) inferInstance hL
     go_wp2
     go_roundw
     case rel => exact ⟨k + 1, by omega, by go_num, HF2, inferInstance⟩
     case measure => simp [intOf]; omega
    ·have HF2 : Hid (l ≠ r) := by rw [hd, hd'] at HF; intro e; have := HF.out.2 e; simp at this; exact hxy this.1
     have hb : decide (x = y) = false := by simpa using hxy
     clear hxy hd hd'
     go_wp2_with fail
     go_still_tail 8, (by kernel_rfl)
     change wpList _ _ _ _ _ wr.drew
     go_wp2_with fail
     refine (laws_eqDuty HI.out inferInstance HI'.out inferInstance).mono ?_
     rintro e w2 ⟨rfl, hL⟩
     have hY := Later.trans (w := w) inferInstance hL
     go_wp2
     go_ret
     exact ⟨ret_bool (by rw [decide_eq_false HF2.out]), inferInstance⟩
   ·have H2 : Hid (l = r) := by
     rw [List.drop_eq_nil_of_le (by have := h.len; omega), List.drop_eq_nil_of_le (by have := h1.len; omega)] at HF
     exact HF.out.1 rfl
    go_wp2
    go_ret
    exact ⟨ret_bool (by rw [decide_eq_true H2.out]), inferInstance⟩
 ·have H2 : Hid (l ≠ r) := by intro e; apply hnm; rw [h.len, h1.len, e]
  have hb : ((n : Int) != m) = true := by rw [bne_iff_ne]; omega
  clear hnm
  go_enter Tryz.func19, Tryz.ntmps19
  go_wp2
  go_ret
  exact ⟨ret_bool (by rw [decide_eq_false H2.out]), inferInstance⟩
end Go.Proofs.YtknhebakebmlcaaGreat
namespace Go.Proofs.YtknhebakebmlcaaGreat
open Go Go.RowKit
set_option linter.unusedVariables false
set_option maxRecDepth 100000
def cntDutys : List Duty → Nat
 | [] => 0
 | x :: l => sumLen x.Pieces + cntDutys l
theorem cntDutys_drop {l : List Duty} {k : Nat} {x : Duty} (h : l[k]? = some x) : cntDutys (l.drop k) = sumLen x.Pieces + cntDutys (l.drop (k + 1)) := by rw [drop_at h]; rfl
theorem cntDutys_le {l : List Duty} {b : Nat} (h : ∀ x, x ∈ l → sumLen x.Pieces ≤ b) : cntDutys l ≤ b * l.length := by
 induction l with
 | nil => simp [cntDutys]
 | cons x l ih =>
  have h1 := h x (by simp)
  have h2 := ih fun y hy => h y (by simp [hy])
  simp only [cntDutys, List.length_cons, Nat.mul_add, Nat.mul_one]
  omega
def mkDutys : Int → List Duty → List Duty
 | _, [] => []
 | k, x :: l => mkDuty k x :: mkDutys (k + sumLen x.Pieces) l
theorem mkDutys_len (k : Int) (l : List Duty) : (mkDutys k l).length = l.length := by
 induction l generalizing k with
 | nil => rfl
 | cons x l ih => simp [mkDutys, ih]
theorem laws_markDutyS {w : World} {A : Option Addr} {n c : Nat} {l : List Duty} {fp : List Nat} {k0 : Int} (h : OSl 1 oDuty w A n c l fp) (hnd : fp.Nodup) (h0 : 0 ≤ k0) (h1 : k0 + cntDutys l ≤ 4611686018427387904) :
  Calls Tryz.prog 23 #[.slice A n c, .int .i64 k0] w (RetMk (k0 + cntDutys l) fp (fun w' => OSl 1 oDuty w' A n c (mkDutys k0 l) fp) w) := by
 have hn : n ≤ 9223372036854775807 := Nat.le_trans h.cap h.max
 go_enter Tryz.func23, Tryz.ntmps23
 go_wp2
 go_loopw [1, 5] (fun q i wr => ∃ (k : Nat) (r : Int) (cur : List Duty), k ≤ n ∧ i = .int .i64 k ∧ q = .int .i64 r ∧ 0 ≤ r ∧ Hid (r + cntDutys (l.drop k) = k0 + cntDutys l) ∧ Hid (cur.drop k = l.drop k ∧ cur.take k ++ mkDutys r (l.drop k) = mkDutys k0 l) ∧ OSl 1 oDuty wr A n c cur fp ∧ Touch fp w wr) (fun _ i _ => n - (intOf i).toNat)
 case atStart => exact ⟨0, k0, l, by omega, rfl, rfl, h0, rfl, ⟨rfl, by simp⟩, h, Touch.refl_⟩
 case round =>
  obtain ⟨k, r, cur, hk, rfl, rfl, hr0, HF, HD, ho, hT⟩ := hrel
  by_cases hlt : k < n
  ·have hlen := ho.len
   have hcl : k < cur.length := by omega
   have hx : cur[k]? = some cur[k] := List.getElem?_eq_getElem hcl
   generalize cur[k] = x at hx
   have hlx : l[k]? = some x := by
    have h2 : (cur.drop k)[0]? = some x := by simpa using hx
    rw [HD.out.1] at h2; simpa using h2
   obtain ⟨g, o, t, cs, es, f, rfl, hB, hgf, hgn, hfs, hfn, hes, hcs, ⟨A1, n1, c1, f1, rfl, hrd, rfl⟩, hset⟩ := ho.elem hnd hx
   have hro := hrd.l_Pieces
   have hc : wr.cell? ⟨g, o + k, none⟩ = some (.slice A1 n1 c1) := by rw [hB.cell]; simpa using hcs 0 _ rfl
   have hsd := cntDutys_drop hlx
   have HS := Lib.hid hset
   have Hx := Lib.hid hx
   have Hlx := Lib.hid hlx
   have HB := Lib.hid hB
   have hb1 : r + (sumLen x.Pieces : Int) ≤ 4611686018427387904 := by have := HF.out; omega
   have HF2 : Hid (r + sumLen x.Pieces + cntDutys (l.drop (k + 1)) = k0 + cntDutys l) := by have := HF.out; show _ = _; omega
   clear hset hx hlx hB hsd hlen hcs hrd
   go_wp2_with fail
   refine (laws_markIntSS hro hfn hr0 hb1).mono ?_
   rintro e w1 ⟨rfl, T1, o1⟩
   have o2 := HS.out w1 cs [.slice A1 n1 c1] (mkDuty r x) (T1.mono fun b hb => List.mem_cons_of_mem _ hb) ((T1.block g HB.out.lt hgn).trans HB.out) (fun _ _ => rfl) rfl (fun j v hv => by
    match j, hv with
    | 0, hv =>
     simp at hv; subst hv
     have := HB.out.cell (o + k)
     rw [hc] at this
     simpa using this.symm) ⟨A1, n1, c1, _, rfl, ⟨o1⟩, rfl⟩
   have T2 := hT.trans (T1.mono hfs)
   clear T1 o1
   go_wp2
   go_roundw
   case rel =>
    refine ⟨k + 1, r + sumLen x.Pieces, cur.set k (mkDuty r x), by omega, by go_num, rfl, by omega, HF2, ⟨?_, ?_⟩, o2, T2⟩
    ·have h3 := HD.out.1
     rw [drop_at Hx.out, drop_at Hlx.out] at h3
     rw [List.drop_set_of_lt (by omega)]
     exact (List.cons.inj h3).2
    ·have h3 := HD.out.2
     rw [drop_at Hlx.out] at h3
     rw [← h3, List.take_set, List.take_succ_eq_append_getElem hcl, List.set_append_right _ _ (by simp; omega)]
     simp [mkDutys, Nat.min_eq_left (Nat.le_of_lt hcl)]
   case measure => simp [intOf]; omega
  ·have hkn : k = n := by omega
   have hlen := ho.len
   have hll := h.len
   have H3 : Hid (r = k0 + cntDutys l ∧ cur = mkDutys k0 l) := by
    have h3 := HF.out
    have h4 := HD.out.2
    rw [List.drop_eq_nil_of_le (by omega)] at h3 h4
    refine ⟨by simpa [cntDutys] using h3, ?_⟩
    rw [← h4, List.take_of_length_le (by omega)]
    simp [mkDutys]
   clear hlen hll
   go_wp2
   go_ret
   obtain ⟨h3, h4⟩ := H3
   subst h4
   exact ⟨ret_int h3, hT, ho⟩
theorem laws_heldDutyS {w0 w : World} {A : Option Addr} {n c : Nat} {m : List Duty} {k0 : Int} (h : Dutys w0 A n c (mkDutys k0 m)) (hl : Later w0 w) (h0 : 0 ≤ k0) (h1 : k0 + cntDutys m ≤ 4611686018427387904) :
  Calls Tryz.prog 24 #[.slice A n c, .int .i64 k0] w (Ret (.int .i64 (k0 + cntDutys m)) w) := by
 replace h := h.later hl
 have hn := h.le
 have hlen := h.len
 rw [mkDutys_len] at hlen
 have Hlen := Lib.hid hlen
 clear hlen
 go_enter Tryz.func24, Tryz.ntmps24
 go_wp2
 go_loopw [1, 5] (fun q i wr => ∃ (k : Nat) (r : Int), k ≤ n ∧ i = .int .i64 k ∧ q = .int .i64 r ∧ 0 ≤ r ∧ Hid (r + cntDutys (m.drop k) = k0 + cntDutys m ∧ (mkDutys k0 m).drop k = mkDutys r (m.drop k)) ∧ Later w wr) (fun _ i _ => n - (intOf i).toNat)
 case atStart => exact ⟨0, k0, by omega, rfl, rfl, h0, ⟨rfl, rfl⟩, inferInstance⟩
 case round =>
  obtain ⟨k, r, hk, rfl, rfl, hr0, HF, hX⟩ := hrel
  by_cases hlt : k < n
  ·obtain ⟨b, o, A1, n1, c1, x, rfl, hx, hc, hi⟩ := Dutys.at_ h hlt
   have hkm : k < m.length := by have := Hlen.out; omega
   obtain ⟨y, hy⟩ : ∃ y, m[k]? = some y := ⟨_, List.getElem?_eq_getElem hkm⟩
   have h3 := HF.out.2
   rw [drop_at hx.out, drop_at hy] at h3
   obtain ⟨h4, h5⟩ := List.cons.inj h3
   subst h4
   have hsd := cntDutys_drop hy
   have hb1 : r + (sumLen y.Pieces : Int) ≤ 4611686018427387904 := by have := HF.out.1; omega
   have HF2 : Hid (r + sumLen y.Pieces + cntDutys (m.drop (k + 1)) = k0 + cntDutys m ∧ (mkDutys k0 m).drop (k + 1) = mkDutys (r + sumLen y.Pieces) (m.drop (k + 1))) := ⟨by have := HF.out.1; omega, h5⟩
   have HI := Lib.hid hi
   clear h3 h5 hsd hy hi
   go_wp2_with fail
   refine (laws_heldIntSS (m := y.Pieces) (HI.out.l_Pieces) hX hr0 hb1).mono ?_
   rintro e w1 ⟨rfl, hL⟩
   have hY : Later w w1 := hX.trans hL
   go_wp2
   go_roundw
   case rel => exact ⟨k + 1, r + sumLen y.Pieces, by omega, by go_num, rfl, by omega, HF2, inferInstance⟩
   case measure => simp [intOf]; omega
  ·have H3 : Hid (r = k0 + cntDutys m) := by
    have h3 := HF.out.1
    rw [List.drop_eq_nil_of_le (by have := Hlen.out; omega)] at h3
    exact (by simpa [cntDutys] using h3 : r = k0 + cntDutys m)
   go_wp2
   go_ret
   exact ⟨ret_int H3.out, inferInstance⟩
end Go.Proofs.YtknhebakebmlcaaGreat
