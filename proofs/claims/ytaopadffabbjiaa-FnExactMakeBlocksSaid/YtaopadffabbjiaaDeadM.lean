/-
  Blocks: DeadMinutes on both sides.
-/
import Derived.Test.YtaopadffabbjiaaBlkD
import Derived.Test.YtaopadffabbjiaaDeadP
namespace Go.Proofs.Ytaopadffabbjiaa
open Go Go.RowKit
set_option linter.unusedVariables false
set_option maxRecDepth 100000
structure DeadFacts (t : Timetable) (f : Fleet) (bs : List (List Int)) : Prop where
  run : RunFacts t f
  pos : ∀ (i : Nat) (b : List Int), bs[i]? = some b → 0 < b.length
  found : ∀ x, x ∈ bs → FoundAll t x
  all : 0 ≤ deadAll t f bs ∧ deadAll t f bs ≤ 1440
  len : bs.length ≤ 12
theorem flat_len {bs : List (List Int)} (h : ∀ (i : Nat) (b : List Int), bs[i]? = some b → 0 < b.length) : bs.length ≤ bs.flatten.length := by
  induction bs with
  | nil => simp
  | cons x l ih =>
    have h1 := h 0 x rfl
    have h2 := ih fun i b hb => h (i + 1) b (by simpa using hb)
    simp only [List.length_cons, List.flatten_cons, List.length_append]
    omega
theorem deadFacts {t : Timetable} {f : Fleet} {bs : List (List Int)} (h : okBlocks t f bs = true) : DeadFacts t f bs := by
  simp only [okBlocks, Bool.and_eq_true] at h
  have rf := runFacts h.1
  have bf := blkFacts h.2
  have hf : ∀ x, x ∈ bs → FoundAll t x := fun x hx v hv => by
    obtain ⟨i, hi⟩ := List.getElem?_of_mem hx
    obtain ⟨j, hj⟩ := List.getElem?_of_mem hv
    exact bf.found i x hi j v hj
  have hd := deadAll_bd rf bs hf
  have hl : bs.flatten.length ≤ 12 := by
    have h2 := h.2
    unfold okBlk at h2
    split at h2
    · cases h2
    · rename_i s hs
      have h3 : s.length = bs.flatten.length := by have := blkGo_len hs; simpa using this
      have h4 := rf.time.len
      have h5 : s.length = t.Trips.length := by simpa using h2
      omega
  have hfl := flat_len bf.pos
  exact ⟨rf, bf.pos, hf, by omega, by omega⟩
theorem deadAll_drop {t : Timetable} {f : Fleet} {bs : List (List Int)} (h : DeadFacts t f bs) (k : Nat) : 0 ≤ deadAll t f (bs.drop k) := (deadAll_bd h.run _ fun x hx => h.found x (List.mem_of_mem_drop hx)).1
def deadRes (t : Timetable) (f : Fleet) (bs : List (List Int)) : Int × Bool := if okBlocks t f bs = true then (deadAll t f bs, true) else (0, false)
set_option maxHeartbeats 2000000 in
theorem spec_l11Sum {w0 w w2 w3 : World} {sA0 : Option Addr} {sn0 sc0 : Nat} {sA1 : Option Addr} {sn1 sc1 : Nat} {sA2 : Option Addr} {sn2 sc2 : Nat} {t : Timetable} (h : TimetableAt w0 sA0 sn0 sc0 sA1 sn1 sc1 sA2 sn2 sc2 t) (hl : Later w0 w) {qA0 : Option Addr} {qn0 qc0 : Nat} {f : Fleet} (h2 : FleetAt w2 qA0 qn0 qc0 f) (hl2 : Later w2 w) {bA : Option Addr} {bn bc : Nat} {bs : List (List Int)} (h3 : Sl 1 (rSl 1 rInt) w3 bA bn bc bs) (hl3 : Later w3 w) (df : DeadFacts t f bs) :
    Calls Try.prog 46 #[.agg #[.slice sA0 sn0 sc0, .slice sA1 sn1 sc1, .slice sA2 sn2 sc2], .agg #[.slice qA0 qn0 qc0, .int .i64 f.Turn], .slice bA bn bc] w (Ret (.int .i64 (deadAll t f bs)) w) := by
  have hB := h3.later hl3
  have HB0 : ∀ W [Later ((w.alloc (.cells #[.slice sA0 sn0 sc0, .slice sA1 sn1 sc1, .slice sA2 sn2 sc2] 41)).alloc (.cells #[.slice qA0 qn0 qc0, .int .i64 f.Turn] 43)) W] (j : Nat), W.cell? ⟨w.heap.size, j, none⟩ = #[.slice sA0 sn0 sc0, .slice sA1 sn1 sc1, .slice sA2 sn2 sc2][j]? := Later.boxes (t := 41) (fr := (0, 0)) ((heap_old (by simp; try omega)).trans (heap_new (by simp; try omega))); have HB1 : ∀ W [Later ((w.alloc (.cells #[.slice sA0 sn0 sc0, .slice sA1 sn1 sc1, .slice sA2 sn2 sc2] 41)).alloc (.cells #[.slice qA0 qn0 qc0, .int .i64 f.Turn] 43)) W] (j : Nat), W.cell? ⟨w.heap.size + 1, j, none⟩ = #[.slice qA0 qn0 qc0, .int .i64 f.Turn][j]? := Later.boxes (t := 43) (fr := (0, 0)) (heap_new (by simp; try omega)); obtain ⟨wb, hwb⟩ : ∃ wb : World, wb = ((w.alloc (.cells #[.slice sA0 sn0 sc0, .slice sA1 sn1 sc1, .slice sA2 sn2 sc2] 41)).alloc (.cells #[.slice qA0 qn0 qc0, .int .i64 f.Turn] 43)) := ⟨_, rfl⟩; haveI hbW : Later wb ((w.alloc (.cells #[.slice sA0 sn0 sc0, .slice sA1 sn1 sc1, .slice sA2 sn2 sc2] 41)).alloc (.cells #[.slice qA0 qn0 qc0, .int .i64 f.Turn] 43)) := (by rw [hwb]; exact Later.rfl_); haveI hww : Later w wb := (by rw [hwb]; infer_instance); rw [← hwb] at HB0; rw [← hwb] at HB1; have hbE := Lib.hid (congrArg (fun x : World => x.heap.size) hwb); clear hwb
  have hwb0 := hl.trans hww
  have hwb2 := hl2.trans hww
  have hwb3 := hl3.trans hww
  have H := Lib.hid h
  have H2 := Lib.hid h2
  have H3 := Lib.hid h3
  clear h h2 h3
  replace hB := hB.later hww
  have hbl := hB.le
  have Hbl := Lib.hid hB.len
  have DF := Lib.hid df
  have hda := df.all
  clear df
  go_enter Try.func46, Try.ntmps46
  go_wp2_with fail
  go_loopw [7, 8] (fun so i wr => ∃ (k : Nat) (sm : Int), k ≤ bn ∧ i = .int .i64 k ∧ so = .int .i64 sm ∧ 0 ≤ sm ∧ sm ≤ 1440 ∧ Hid (sm + deadAll t f (bs.drop k) = deadAll t f bs) ∧ Later wb wr) (fun _ i _ => bn - (intOf i).toNat)
  case atStart => exact ⟨0, 0, by omega, rfl, rfl, by omega, by omega, by show _ = _; simp, inferInstance⟩
  case round =>
    obtain ⟨k, sm, hk, rfl, rfl, hs0, hs1, HF, hX⟩ := hrel
    by_cases hlt : k < bn
    · obtain ⟨b, o, A1, n1, c1, x, rfl, hx, hc0, hi⟩ := Sl.row_ hB hlt
      have hn1 := hi.le
      have Hxl := Lib.hid hi.len
      have hxp := DF.out.pos k x hx.out
      have HFA := Lib.hid (DF.out.found x (List.mem_of_getElem? hx.out))
      have HF1 : Hid (sm + (rowDead t f x + deadAll t f (bs.drop (k + 1))) = deadAll t f bs) := by
        have h3 := HF.out
        rw [drop_at hx.out] at h3
        exact h3
      clear HF hx
      cases x with
      | nil => simp at hxp
      | cons p l =>
        have HF2 : Hid (sm + rowDeadGo t f p l + deadAll t f (bs.drop (k + 1)) = deadAll t f bs) := by
          show _ = _
          have := HF1.out
          simp only [rowDead] at this
          omega
        clear HF1
        have hn1p : 0 < n1 := by rw [Hxl.out]; simp
        go_wp2_with fail
        go_loopw [7, 9] (fun so i wr => ∃ (j m : Nat) (u s2 : Int), j = m + 1 ∧ m < n1 ∧ i = .int .i64 j ∧ so = .int .i64 s2 ∧ 0 ≤ s2 ∧ s2 ≤ 1440 ∧ Hid ((p :: l)[m]? = some u) ∧ Hid (s2 + rowDeadGo t f u (l.drop m) + deadAll t f (bs.drop (k + 1)) = deadAll t f bs) ∧ Later wb wr) (fun _ i _ => n1 - (intOf i).toNat)
        case atStart => exact ⟨1, 0, p, sm, rfl, by omega, rfl, rfl, by omega, by omega, rfl, HF2, inferInstance⟩
        case round =>
          obtain ⟨j, m, u, s2, hjm, hm, rfl, rfl, a0, a1, hu, HG, hY⟩ := hrel
          obtain ⟨b4, o4, u', rfl, hu', hcu, _⟩ := Ints.at_ hi hm
          obtain rfl : u' = u := Option.some.inj (hu'.out.symm.trans hu.out)
          have fu := HFA.out u' (List.mem_of_getElem? hu.out)
          by_cases hjt : j < n1
          · obtain ⟨b5, o5, v, hA5, hv, hcv, _⟩ := Ints.at_ hi hjt
            cases hA5
            have fv := HFA.out v (List.mem_of_getElem? hv.out)
            have HV := hv
            have hlm : l[m]? = some v := by have h4 := hv.out; rw [hjm] at h4; simpa using h4
            have HG1 : Hid (s2 + pairDead t f u' v + rowDeadGo t f v (l.drop (m + 1)) + deadAll t f (bs.drop (k + 1)) = deadAll t f bs) := by
              show _ = _
              have h3 := HG.out
              rw [drop_at hlm] at h3
              simp only [rowDeadGo] at h3
              omega
            have q1 := pairDead_bd DF.out.run fu fv
            have q2 := (rowDeadGo_bd DF.out.run (l.drop (m + 1)) v fv (fun y hy => HFA.out y (List.mem_cons_of_mem _ (List.mem_of_mem_drop hy)))).1
            have q3 := deadAll_drop DF.out (k + 1)
            have q4 : s2 + pairDead t f u' v ≤ 1440 := by have := HG1.out; omega
            have q5 := q1.1
            have hwr : IntKind.i64.wrap (s2 + pairDead t f u' v) = s2 + pairDead t f u' v := by rw [IntKind.wrap_i64]; omega
            have hwm : IntKind.i64.wrap ((j : Int) - 1) = (m : Int) := by rw [IntKind.wrap_i64]; omega
            have hjt' : (j : Int) < n1 := by omega
            have hm' : (m : Int) < n1 := by omega
            have Hjm := Lib.hid hjm
            have TU := Lib.hid (tripI_facts DF.out.run.time fu (findI_bd t u').2)
            have TV := Lib.hid (tripI_facts DF.out.run.time fv (findI_bd t v).2)
            have FU : Hid (0 ≤ findI t u' ∧ findI t u' < t.Trips.length) := ⟨fu, (findI_bd t u').2⟩
            have FV : Hid (0 ≤ findI t v ∧ findI t v < t.Trips.length) := ⟨fv, (findI_bd t v).2⟩
            clear HG hu' hv hlm q1 q2 q3 fu fv hjm
            go_wp2_with fail
            go_region_held3 (fun w' => Later wb w' ∧ Later wr w') (exact ⟨inferInstance, inferInstance⟩) (first
              | ((with_reducible refine (spec_l5Find H.out (hwb0.trans inferInstance) u').mono ?_); rintro e w4 ⟨rfl, L4⟩; have X4 := Later.trans (w := wb) inferInstance L4; have Z4 := Later.trans (w := wr) inferInstance L4)
              | ((with_reducible refine (spec_l5Find H.out (hwb0.trans inferInstance) v).mono ?_); rintro e w5 ⟨rfl, L5⟩; have X5 := Later.trans (w := wb) inferInstance L5; have Z5 := Later.trans (w := wr) inferInstance L5)
              | (go_at_call 96; refine (spec_l11Dead H.out (hwb0.trans inferInstance) H2.out (hwb2.trans inferInstance) DF.out.run.time.net DF.out.run.fleet _ _ FU.out.1 FU.out.2 FV.out.1 FV.out.2 TU.out.in_ TV.out.in_).mono ?_; change ∀ _ _, Ret (.int .i64 (pairDead t f u' v)) _ _ _ → _; rintro e w6 ⟨rfl, L6⟩; have X6 := Later.trans (w := wb) inferInstance L6; have Z6 := Later.trans (w := wr) inferInstance L6))
            clear hwr hwm
            go_wp2
            go_roundw
            case rel => exact ⟨j + 1, j, v, s2 + pairDead t f u' v, rfl, by omega, by go_num, rfl, by omega, by omega, HV, by rw [Hjm.out]; exact HG1, inferInstance⟩
            case measure => simp [intOf]; omega
          · have HF3 : Hid (s2 + deadAll t f (bs.drop (k + 1)) = deadAll t f bs) := by
              show _ = _
              have h3 := HG.out
              rw [List.drop_eq_nil_of_le (by have := Hxl.out; simp at this; omega)] at h3
              simp only [rowDeadGo] at h3
              omega
            have hjt' : ¬ ((j : Int) < n1) := by omega
            clear HG
            go_wp2
            go_roundw
            case rel => exact ⟨k + 1, s2, by omega, by go_num, rfl, by omega, by omega, HF3, inferInstance⟩
            case measure => simp [intOf]; omega
    · have HE : Hid (sm = deadAll t f bs) := by
        have h3 := HF.out
        rw [List.drop_eq_nil_of_le (by have := Hbl.out; omega)] at h3
        exact (by simpa [deadAll] using h3 : sm = _)
      clear HF
      go_wp2
      go_ret; exact ⟨ret_int HE.out, hww.trans inferInstance⟩
end Go.Proofs.Ytaopadffabbjiaa
