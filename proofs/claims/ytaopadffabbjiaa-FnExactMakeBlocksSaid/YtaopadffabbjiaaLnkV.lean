/-
  MakeBlocks: spec.l11Chains.
-/
import Derived.Test.YtaopadffabbjiaaLnkE
import Derived.Test.YtaopadffabbjiaaRowA
import Derived.Test.YtaopadffabbjiaaORow
namespace Go.Proofs.Ytaopadffabbjiaa
open Go Go.RowKit
set_option linter.unusedVariables false
set_option maxRecDepth 100000
set_option linter.unusedSimpArgs false
set_option maxHeartbeats 8000000 in
theorem spec_l11Chains {w0 w w2 : World} {sA0 : Option Addr} {sn0 sc0 : Nat} {sA1 : Option Addr} {sn1 sc1 : Nat} {sA2 : Option Addr} {sn2 sc2 : Nat} {t : Timetable} (h : TimetableAt w0 sA0 sn0 sc0 sA1 sn1 sc1 sA2 sn2 sc2 t) (hl : Later w0 w) {f : Fleet} (rf : RunFacts t f) {bA : Option Addr} {bn bc : Nat} (hb : Ints w2 bA bn bc ((blkBs t f).map bI)) (hl2 : Later w2 w) :
    Calls Try.prog 44 #[.agg #[.slice sA0 sn0 sc0, .slice sA1 sn1 sc1, .slice sA2 sn2 sc2], .slice bA bn bc] w (RetO 1 (oSl 1 oInt) (blkRows t f) w) := by
  have hsn : sn2 = t.Trips.length := h.l_Trips.len
  subst hsn
  have hbn : bn = t.Trips.length := by rw [hb.len, List.length_map, blkBs_len]
  subst hbn
  have HB0 : ∀ W [Later (w.alloc (.cells #[.slice sA0 sn0 sc0, .slice sA1 sn1 sc1, .slice sA2 t.Trips.length sc2] 41)) W] (j : Nat), W.cell? ⟨w.heap.size, j, none⟩ = #[.slice sA0 sn0 sc0, .slice sA1 sn1 sc1, .slice sA2 t.Trips.length sc2][j]? := Later.boxes (t := 41) (fr := (0, 0)) (heap_new (by simp; try omega)); obtain ⟨wb, hwb⟩ : ∃ wb : World, wb = (w.alloc (.cells #[.slice sA0 sn0 sc0, .slice sA1 sn1 sc1, .slice sA2 t.Trips.length sc2] 41)) := ⟨_, rfl⟩; haveI hbW : Later wb (w.alloc (.cells #[.slice sA0 sn0 sc0, .slice sA1 sn1 sc1, .slice sA2 t.Trips.length sc2] 41)) := (by rw [hwb]; exact Later.rfl_); haveI hww : Later w wb := (by rw [hwb]; infer_instance); rw [← hwb] at HB0; have hbE := Lib.hid (congrArg (fun x : World => x.heap.size) hwb); clear hwb
  have hbs : wb.heap.size = w.heap.size + 1 := by simpa using hbE.out
  have hwb0 := hl.trans hww
  have hwb2 := hl2.trans hww
  clear hbE
  have hlen := rf.time.len
  have hBL := blkBs_len t f
  have hLK := Lib.hid (blkLinks rf)
  have HTR := Lib.hid (h.l_Trips.later hwb0)
  have HTF := Lib.hid rf.time
  have HB := Lib.hid (hb.later hwb2)
  have hws : w.heap.size ≤ wb.heap.size := by omega
  have HBSZ := Lib.hid hbs
  clear h hb rf hbs
  go_enter Try.func44, Try.ntmps44
  go_wp2_with fail
  obtain ⟨W1, hW1⟩ : ∃ W1 : World, W1 = (w.alloc (.cells #[.slice sA0 sn0 sc0, .slice sA1 sn1 sc1, .slice sA2 t.Trips.length sc2] 41)).alloc (.cells #[] 67) := ⟨_, rfl⟩
  haveI L1 : Later wb W1 := by rw [hW1]; infer_instance
  have hO1 : ORows W1 (w.heap.size + 1) 67 (.slice (some ⟨w.heap.size + 1, 0, none⟩) 0 0) [] := by
    rw [hW1]
    have h9 := World.ownsRow_lit (base := w.heap.size + 1) (e := 67) (size := 1) (w.alloc (.cells #[.slice sA0 sn0 sc0, .slice sA1 sn1 sc1, .slice sA2 t.Trips.length sc2] 41)) #[] 0 (by simp) (by simp [maxLen]) rfl
    exact ORows.of0 (by simpa using h9)
  try rw [← hW1]
  clear hW1
  go_loopw [5, 6] (fun ov kv ws => ∃ k : Nat, k ≤ t.Trips.length ∧ kv = .int .i64 (k : Int) ∧ Hid (ORows ws (w.heap.size + 1) 67 ov (blkUp t f k)) ∧ Later wb ws ∧ w.heap.size + 1 ≤ ws.heap.size) (fun _ kv _ => t.Trips.length - (intOf kv).toNat)
  case atStart => exact ⟨0, by omega, rfl, Lib.hid hO1, inferInstance, by have := L1.size; have := HBSZ.out; omega⟩
  case round =>
    obtain ⟨k, hk, rfl, hown, hXb, hsz⟩ := hrel
    by_cases hlt : k < t.Trips.length
    · obtain ⟨o, ho⟩ : ∃ o, (blkBs t f)[k]? = some o := ⟨_, List.getElem?_eq_getElem (by omega)⟩
      obtain ⟨b3, o3, y, rfl, hy, hcb, _⟩ := Ints.at_ HB.out (k := k) hlt
      have hyv : y = bI o := by have h9 := hy.out; rw [List.getElem?_map, ho] at h9; cases h9; rfl
      subst hyv
      clear hy
      cases o with
      | some a =>
        have hup := Lib.hid (blkUp_no ho)
        have hbi : bI (some a) = (a : Int) := rfl
        rw [hbi] at hcb
        clear ho hbi
        go_wp2
        go_roundw
        case rel => exact ⟨k + 1, by omega, by go_num, by rw [hup.out]; exact hown, inferInstance, hsz⟩
        case measure => simp [intOf]; omega
      | none =>
        have hup := Lib.hid (blkUp_yes ho)
        have hbi : bI none = -1 := rfl
        rw [hbi] at hcb
        have hlen9 : (blkUp t f k).length ≤ 1073741824 := by have := blkUp_len t f k; omega
        obtain ⟨wq, rfl⟩ : ∃ wq : World, wq = wr := ⟨_, rfl⟩
        clear ho hbi
        go_wp2_with fail
        obtain ⟨ws0, hws0⟩ : ∃ ws0 : World, ws0 = wq.alloc (.cells #[] 3) := ⟨_, rfl⟩
        haveI Ls0 : Later wq ws0 := by rw [hws0]; infer_instance
        have hr0 : ws0.ownsRow wq.heap.size 3 1 (.slice (some ⟨wq.heap.size, 0, none⟩) 0 0) 0 [] := by rw [hws0]; exact World.ownsRow_lit wq #[] 0 (Nat.le_refl _) (by simp [maxLen]) rfl
        try rw [← hws0]
        clear hws0
        go_loopw [7, 8] (fun pv av ws => ∃ (done : List Nat) (cur : Option Nat), av = .int .i64 (bI cur) ∧ Hid (done ++ chainO (blkBs t f) cur = chain (blkBs t f) k) ∧ Hid (∀ a, cur = some a → a < t.Trips.length) ∧ Hid (∀ a, a ∈ done → a < t.Trips.length) ∧ Hid (ws.ownsRow wq.heap.size 3 1 pv done.length ((done.map fun (k : Nat) => (tripI t (k : Int)).Id).map (Value.int .i64))) ∧ Later wq ws) (fun _ av _ => mO (blkBs t f) (intOf av))
        case atStart => exact ⟨[], some k, rfl, Lib.hid rfl, Lib.hid (fun a e => by cases e; exact hlt), Lib.hid (by simp), Lib.hid hr0, inferInstance⟩
        case round =>
          obtain ⟨done, cur, rfl, HD, HC, HDN, hrow, hY⟩ := hrel
          haveI hYb := hXb.trans hY
          have hdl : done.length ≤ 1073741824 := by
            have h9 := chain_len (blkBs t f) ((blkBs t f).length + 1) k
            have h8 := congrArg List.length HD.out
            rw [List.length_append] at h8
            unfold chain at h8
            omega
          cases cur with
          | none =>
            have hbi : bI none = -1 := rfl
            rw [hbi]
            have hfin := HD.out
            simp only [chainO, List.append_nil] at hfin
            have hids : (done.map fun (k : Nat) => (tripI t (k : Int)).Id) = blkIds t f k := by rw [hfin]; rfl
            have hrow2 := hrow.out
            rw [hids] at hrow2
            have hdl2 : done.length = (blkIds t f k).length := by rw [← hids, List.length_map]
            rw [hdl2] at hrow2
            obtain ⟨A9, c9, fp9, rfl, ho9, hnd9, hlo9⟩ := OSl.ints_of_own hrow2 (fun y hy => by
              rw [← hids] at hy
              obtain ⟨a9, ha9, rfl⟩ := List.mem_map.1 hy
              have h8 := List.getElem?_eq_getElem (HDN.out a9 ha9)
              rw [tripI_of h8]
              have := (HTF.out.trip a9 _ h8).id
              unfold I64; omega)
            have HO9 := Lib.hid ho9
            have HLO9 := Lib.hid hlo9
            clear hbi hfin hids hrow2 hrow HD HDN ho9 hlo9
            go_wp2_with (at_builtin; go_loud (refine wpList_app_R rfl _ _ 29 rfl Try.underlying29 infoRow (by decide) (w0 := wb) (w1 := wq) rfl hown.out inferInstance inferInstance (by have := HBSZ.out; omega) hsz (HO9.out.later inferInstance) hnd9 HLO9.out (by first | rfl | simp) hlen9 ?_; intro v' w9 hown' hX9))
            go_roundw
            case rel => exact ⟨k + 1, by omega, by go_num, Lib.hid (by rw [hup.out]; exact hown'), hX9, by have := hX9.size; have := HBSZ.out; omega⟩
            case measure => simp [intOf]; omega
          | some a =>
            have hat := HC.out a rfl
            have hbi : bI (some a) = (a : Int) := rfl
            rw [hbi]
            have hst := chain_step hLK.out a
            have hD2 := HD.out
            rw [show chainO (blkBs t f) (some a) = chain (blkBs t f) a from rfl, hst] at hD2
            have HD2 := Lib.hid hD2
            have HMS : Hid (mO (blkBs t f) (bI (nxt (blkBs t f) a)) < mO (blkBs t f) (a : Int)) := by show _ < _; rw [mO_bI, mO_some, hst]; simp
            obtain ⟨b1, o1, x, rfl, hx, hx0, _, _, hxo⟩ := Trips.at_ HTR.out hat
            have HXI := Lib.hid (tripI_of hx.out)
            have hrow2 := hrow.out
            obtain ⟨A8, c8, hv8⟩ := own_shape hrow2
            subst hv8
            have HROW := Lib.hid hrow2
            clear hbi hst hD2 HD hx hxo hrow hrow2
            go_wp2_with (at_builtin; go_loud (refine wpList_app_B rfl _ _ 67 rfl Try.underlying67 infoInt rfl (by decide) (by decide) (base := wq.heap.size) (w0 := wq) rfl (by exact ownsRow_later HROW.out (inferInstance : Later wr _)) inferInstance (Nat.le_refl _) (Later.size (w := wq) inferInstance) (by first | rfl | simp) rfl (one_cell _ _) hdl ?_; intro v' w9 hown' hX9; haveI hX9b := hXb.trans hX9))
            go_loopw [9, 10] (fun nv jv ws => ∃ (j : Nat) (st : Option Nat), j ≤ t.Trips.length ∧ jv = .int .i64 (j : Int) ∧ nv = .int .i64 (bI st) ∧ Hid (∀ z, st = some z → (blkBs t f)[z]? = some (some a)) ∧ Hid (st = none → ∀ z, z < j → ¬ (blkBs t f)[z]? = some (some a)) ∧ Later w9 ws) (fun _ jv _ => t.Trips.length - (intOf jv).toNat)
            case atStart => exact ⟨0, none, by omega, rfl, rfl, Lib.hid (fun z e => by cases e), Lib.hid (fun _ z hz => by omega), inferInstance⟩
            case round =>
              obtain ⟨j, st, hj, rfl, rfl, HS, HN, hZ⟩ := hrel
              haveI hZb := hX9b.trans hZ
              by_cases hjt : j < t.Trips.length
              · obtain ⟨b4, o4, y, e4, hy, hcj, _⟩ := Ints.at_ HB.out (k := j) hjt
                cases e4
                obtain ⟨o2, ho2⟩ : ∃ o2, (blkBs t f)[j]? = some o2 := ⟨_, List.getElem?_eq_getElem (by omega)⟩
                have hyv : y = bI o2 := by have h9 := hy.out; rw [List.getElem?_map, ho2] at h9; cases h9; rfl
                have HO2 := Lib.hid ho2
                have HYV := Lib.hid hyv
                clear hy hyv ho2
                by_cases hya : y = (a : Int)
                · have hya1 := (beqi_t hya).1
                  have ho3 : o2 = some a := bI_inj (by rw [← HYV.out, hya]; rfl)
                  have HO3 := Lib.hid ho3
                  clear ho3
                  go_wp2
                  go_roundw
                  case rel => exact ⟨j + 1, some j, by omega, by go_num, rfl, Lib.hid (fun z e => by cases e; rw [HO2.out, HO3.out]), Lib.hid (fun e => by cases e), inferInstance⟩
                  case measure => simp [intOf]; omega
                · have hya1 := (beqi_f hya).1
                  have hno : Hid (¬ o2 = some a) := fun e => hya (by rw [HYV.out, e]; rfl)
                  go_wp2
                  go_roundw
                  case rel => exact ⟨j + 1, st, by omega, by go_num, rfl, HS, Lib.hid (fun e z hz => by
                    rcases Nat.lt_or_ge z j with h7 | h7
                    · exact HN.out e z h7
                    · obtain rfl : z = j := by omega
                      rw [HO2.out]
                      intro e9; exact hno.out (by cases e9; rfl)), inferInstance⟩
                  case measure => simp [intOf]; omega
              · have hst9 : Hid (st = nxt (blkBs t f) a) := by
                  show _ = _
                  cases st with
                  | some z => exact (nxt_of hLK.out (HS.out z rfl)).symm
                  | none =>
                    cases hnx : nxt (blkBs t f) a with
                    | none => rfl
                    | some z => exact absurd (nxt_some hnx).2 (HN.out rfl z (by have := (nxt_some hnx).1; omega))
                go_wp2
                go_roundw
                case rel =>
                  refine ⟨done ++ [a], nxt (blkBs t f) a, by rw [hst9.out], Lib.hid ?_, Lib.hid (fun k9 e9 => by rw [← hBL]; exact nxt_lt e9), Lib.hid ?_, Lib.hid ?_, hX9.trans hZ⟩
                  · rw [List.append_assoc]; exact HD2.out
                  · intro k9 hk9
                    rcases List.mem_append.1 hk9 with hk9 | hk9
                    · exact HDN.out k9 hk9
                    · simp at hk9; subst hk9; exact hat
                  · rw [List.map_append, List.map_append, List.length_append]
                    have h9 := ownsRow_later hown' hZ
                    simpa [HXI.out] using h9
                case measure => rw [hst9.out]; exact HMS.out
    · obtain rfl : k = t.Trips.length := by omega
      obtain ⟨A9, c9, fp9, rfl, ho9, hnd9, hlo9⟩ := hown.out.shut
      have HO9 := Lib.hid ho9
      clear ho9
      go_wp2
      go_ret
      exact ⟨A9, _, c9, fp9, rfl, HO9.out, hnd9, fun g hg => by have := hlo9 g hg; omega, hww.trans hXb⟩
end Go.Proofs.Ytaopadffabbjiaa
