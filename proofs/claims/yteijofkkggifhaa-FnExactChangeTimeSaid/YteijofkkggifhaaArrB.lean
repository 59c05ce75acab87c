/-
  Earliest arrivals: the program's rounds.
-/
import Derived.Test.YteijofkkggifhaaArr
namespace Go.Proofs.Yteijofkkggifhaa
open Go Go.RowKit
set_option linter.unusedVariables false
set_option maxRecDepth 100000
/-- Numbers of a size that rounds bear. -/
def Small (l : List Int) : Prop := ∀ v, v ∈ l → 0 ≤ v ∧ v ≤ 1073741900
theorem Small.i64 {l : List Int} (h : Small l) : ∀ v, v ∈ l → I64 v := fun v hv => by have := h v hv; unfold I64; omega
theorem small_gi {l : List Int} {n : Nat} (hn : l.length = n) (h : ∀ s : Int, 0 ≤ s → s < n → 0 ≤ gi l s ∧ gi l s ≤ 1073741900) : Small l := by
  intro v hv
  obtain ⟨k, hk⟩ := List.getElem?_of_mem hv
  have hkl := (List.getElem?_eq_some_iff.1 hk).1
  have := h k (by omega) (by omega)
  rw [gi_at hk] at this
  exact this
theorem rideL_small {t : Timetable} (tf : TimeFacts t) {ready : List Int} (hr : ready.length = t.Network.Stops.length) : ∀ s : Int, 0 ≤ s → s < t.Network.Stops.length → 0 ≤ gi (rideL t ready) s ∧ gi (rideL t ready) s ≤ never := by
  intro s s0 s1
  have g := rideL_glb (stopsIn tf) hr s0 s1
  refine ⟨?_, g.le⟩
  rcases g.att with e | e
  · rw [e]; decide
  · exact (hop_bd (stopsIn tf) e).2.2.1
theorem bestL_at {best next : List Int} {j : Nat} {a b : Int} (ha : next[j]? = some a) (hb : best[j]? = some b) : (bestL best next)[j]? = some (if a < b then a else b) := by
  unfold bestL; rw [List.getElem?_zipWith, hb, ha]
theorem readyN_at {change : Int} {best next : List Int} {j : Nat} {a b : Int} (ha : next[j]? = some a) (hb : best[j]? = some b) : (readyN change best next)[j]? = some (if a < b then a + change else never) := by
  unfold readyN; rw [List.getElem?_zipWith, hb, ha]
/-- Up to j the new values stand, behind them the old ones. -/
structure Mid (n j : Nat) (new old cur : List Int) : Prop where
  len : cur.length = n
  lt : ∀ i, i < j → cur[i]? = new[i]?
  ge : ∀ i, j ≤ i → cur[i]? = old[i]?
theorem Mid.start {n : Nat} {new old : List Int} (h : old.length = n) : Mid n 0 new old old := ⟨h, fun i hi => by omega, fun i _ => rfl⟩
theorem Mid.put {n j : Nat} {new old cur : List Int} (h : Mid n j new old cur) (hj : j < n) {v : Int} (hv : new[j]? = some v) : Mid n (j + 1) new old (cur.set j v) := by
  refine ⟨by rw [List.length_set]; exact h.len, fun i hi => ?_, fun i hi => by rw [List.getElem?_set_ne (by omega)]; exact h.ge i (by omega)⟩
  by_cases e : i = j
  · subst e; rw [List.getElem?_set_self (by rw [h.len]; exact hj), hv]
  · rw [List.getElem?_set_ne (Ne.symm e)]; exact h.lt i (by omega)
theorem Mid.keep {n j : Nat} {new old cur : List Int} (h : Mid n j new old cur) {v : Int} (ho : old[j]? = some v) (hv : new[j]? = some v) : Mid n (j + 1) new old cur := by
  refine ⟨h.len, fun i hi => ?_, fun i hi => h.ge i (by omega)⟩
  by_cases e : i = j
  · subst e; rw [h.ge i (Nat.le_refl _), ho, hv]
  · exact h.lt i (by omega)
theorem Mid.done {n j : Nat} {new old cur : List Int} (h : Mid n j new old cur) (hj : j = n) (hn : new.length = n) : cur = new := by
  refine List.ext_getElem? fun i => ?_
  by_cases hi : i < j
  · exact h.lt i hi
  · rw [List.getElem?_eq_none (by rw [h.len]; omega), List.getElem?_eq_none (by omega)]
theorem set_set_at (l : List Int) (j : Nat) (u v : Int) : (l.set j u).set j v = l.set j v := by simp
structure RoundFacts (n : Nat) (change : Int) (best ready : List Int) : Prop where
  lb : best.length = n
  lr : ready.length = n
  sb : Small best
  sr : Small ready
theorem roundFacts {t : Timetable} (tf : TimeFacts t) {change : Int} (h0 : 0 ≤ change) (h1 : change ≤ 30) {best ready : List Int} (h : RoundFacts t.Network.Stops.length change best ready) :
    RoundFacts t.Network.Stops.length change (bestL best (rideL t ready)) (readyN change best (rideL t ready)) := by
  have hl : (rideL t ready).length = t.Network.Stops.length := by rw [rideL_len]; exact h.lr
  have hs := rideL_small tf h.lr
  have hb : ∀ s : Int, 0 ≤ s → s < t.Network.Stops.length → 0 ≤ gi best s ∧ gi best s ≤ 1073741900 := fun s s0 s1 => by
    have : s.toNat < best.length := by rw [h.lb]; omega
    have e := h.sb (best[s.toNat]) (List.getElem_mem this)
    have e2 : gi best s = best[s.toNat] := by unfold gi; rw [List.getD_eq_getElem?_getD, List.getElem?_eq_getElem this]; rfl
    rw [e2]; exact e
  refine ⟨by simp [bestL, h.lb, hl], by simp [readyN, h.lb, hl], small_gi (n := t.Network.Stops.length) (by simp [bestL, h.lb, hl]) fun s s0 s1 => ?_, small_gi (n := t.Network.Stops.length) (by simp [readyN, h.lb, hl]) fun s s0 s1 => ?_⟩
  · rw [show gi (bestL best (rideL t ready)) s = _ from gi_zip h.lb hl s0 s1]
    have := hs s s0 s1
    have := hb s s0 s1
    unfold never at *
    split <;> omega
  · rw [show gi (readyN change best (rideL t ready)) s = _ from gi_zip h.lb hl s0 s1]
    have := hs s s0 s1
    have := hb s s0 s1
    unfold never at *
    split <;> omega
set_option maxHeartbeats 4000000 in
theorem impl_arrivals {w0 w : World} {sA0 : Option Addr} {sn0 sc0 : Nat} {sA1 : Option Addr} {sn1 sc1 : Nat} {sA2 : Option Addr} {sn2 sc2 : Nat} {t : Timetable} (h : TimetableAt w0 sA0 sn0 sc0 sA1 sn1 sc1 sA2 sn2 sc2 t) (hl : Later w0 w) {w3 : World} (tf : TimeFacts t) (change : Int) (ch0 : 0 ≤ change) (ch1 : change ≤ 30) {rA : Option Addr} {rn rc : Nat} {ready : List Int} (h3 : Ints w3 rA rn rc ready) (hl3 : Later w3 w) (hrn : ready.length = t.Network.Stops.length) (hsm : Small ready) (legs : Nat) (hlg : legs ≤ 100) :
    Calls Try.prog 123 #[.agg #[.slice sA0 sn0 sc0, .slice sA1 sn1 sc1, .slice sA2 sn2 sc2], .int .i64 change, .slice rA rn rc, .int .i64 legs] w (RetB rn (arrL t change ready legs) w) := by
  have hR := h3.later hl3
  have Hr := Lib.hid hR.len
  have TF := Lib.hid tf
  have HRN : Hid (rn = t.Network.Stops.length) := by show _ = _; rw [hR.len, hrn]
  have hn8 : rn ≤ 8 := by have := tf.net.stops; have := HRN.out; omega
  have RF : Hid (RoundFacts t.Network.Stops.length change (List.replicate rn 1073741824) ready) := ⟨by rw [List.length_replicate]; exact HRN.out, hrn, fun v hv => by rw [List.eq_of_mem_replicate hv]; omega, hsm⟩
  have hmk := make_ints rn (by omega)
  clear h3 tf hrn hsm
  have HB0 : ∀ W [Later (w.alloc (.cells #[.slice sA0 sn0 sc0, .slice sA1 sn1 sc1, .slice sA2 sn2 sc2] 39)) W] (j : Nat), W.cell? ⟨w.heap.size, j, none⟩ = #[.slice sA0 sn0 sc0, .slice sA1 sn1 sc1, .slice sA2 sn2 sc2][j]? := Later.boxes (t := 39) (fr := (0, 0)) (heap_new (by simp; try omega)); obtain ⟨wb, hwb⟩ : ∃ wb : World, wb = (w.alloc (.cells #[.slice sA0 sn0 sc0, .slice sA1 sn1 sc1, .slice sA2 sn2 sc2] 39)) := ⟨_, rfl⟩; haveI hbW : Later wb (w.alloc (.cells #[.slice sA0 sn0 sc0, .slice sA1 sn1 sc1, .slice sA2 sn2 sc2] 39)) := (by rw [hwb]; exact Later.rfl_); haveI hww : Later w wb := (by rw [hwb]; infer_instance); rw [← hwb] at HB0; have hbE := Lib.hid (congrArg (fun x : World => x.heap.size) hwb); clear hwb
  have hwb0 := hl.trans hww
  have H := Lib.hid h
  clear h
  replace hR := hR.later hww
  have HR := Lib.hid hR
  clear hR
  have hbs : wb.heap.size ≤ w.heap.size + 1 := by have := hbE.out; simp at this; omega
  haveI hN : New wb (w.heap.size + 1) := ⟨hbs⟩
  go_enter Try.func123, Try.ntmps123
  go_wp2_with fail
  go_loopw [19] (fun i wr => ∃ (k : Nat) (cs : List Int), k ≤ rn ∧ i = .int .i64 k ∧ Hid (cs.length = rn ∧ ∀ j, j < k → cs[j]? = some 1073741824) ∧ Blk wr (w.heap.size + 1) 3 (rowA cs) ∧ Later wb wr) (fun i _ => rn - (intOf i).toNat)
  case atStart => exact ⟨0, _, by omega, rfl, ⟨by simp, fun j hj => by omega⟩, heap_new (by simp), inferInstance⟩
  case round =>
    obtain ⟨k, cs, hk, rfl, HC, hB, hX⟩ := hrel
    by_cases hlt : k < rn
    · obtain ⟨v0, hv0⟩ : ∃ v, cs[k]? = some v := ⟨_, List.getElem?_eq_getElem (by have := HC.out.1; omega)⟩
      have hc0 := hB.rowAt hv0
      have hf0 := hB.frozen k
      clear hv0
      go_wp2
      go_roundw
      case rel => exact ⟨k + 1, cs.set k 1073741824, by omega, by go_num, fill_step HC.out hlt, hB.rowSet _, inferInstance⟩
      case measure => simp [intOf]; omega
    obtain rfl := all_rep HC.out (by omega)
    clear HC hk
    go_wp2_with fail
    go_loopw [2, 27] (fun rv i wr => ∃ (k : Nat) (A : Option Addr) (c : Nat) (best rd : List Int), k ≤ legs ∧ i = .int .i64 k ∧ rv = .slice A rn c ∧ Hid (RoundFacts t.Network.Stops.length change best rd ∧ arrGo t change (legs - k) best rd = arrL t change ready legs) ∧ Hid (Ints wr A rn c rd) ∧ Blk wr (w.heap.size + 1) 3 (rowA best) ∧ Later wb wr) (fun _ i _ => legs - (intOf i).toNat)
    case atStart => exact ⟨0, rA, rc, _, ready, by omega, rfl, rfl, ⟨RF.out, by rw [Nat.sub_zero]; unfold arrL; rw [← Hr.out]; rfl⟩, HR.out.later inferInstance, hB.drew, inferInstance⟩
    case round =>
      obtain ⟨k, A, c, best, rd, hk, rfl, rfl, HF, HI, hB, hX⟩ := hrel
      by_cases hlt : k < legs
      · have RF2 := Lib.hid (roundFacts TF.out ch0 ch1 HF.out.1)
        have HE : Hid (arrGo t change (legs - (k + 1)) (bestL best (rideL t rd)) (readyN change best (rideL t rd)) = arrL t change ready legs) := by
          rw [← HF.out.2, show legs - k = legs - (k + 1) + 1 by omega]; rfl
        have HSB := Lib.hid (rideL_small TF.out HF.out.1.lr)
        have HLB := Lib.hid HF.out.1
        have HNL : Hid ((rideL t rd).length = t.Network.Stops.length) := by show _ = _; rw [rideL_len]; exact HF.out.1.lr
        clear HF
        go_wp2_with (go_at_call 169; refine (impl_ride H.out (hwb0.trans inferInstance) TF.out HI.out inferInstance HLB.out.lr).mono ?_; rintro e w4 ⟨gn, rfl, hnl, hBn, hgn, L4⟩; clear hnl; have X4 := Later.trans (w := wb) inferInstance L4; have Y4 := Later.trans (w := wr) inferInstance L4)
        have hB4 := hB.later Y4
        have hgl : ¬ gn = w.heap.size + 1 := by have := hB.lt; omega
        have hgl2 := hB4.lt
        have hgn4 := hBn.lt
        haveI hN4 : New wb w4.heap.size := ⟨X4.size⟩
        have hz1 : ¬ w4.heap.size = w.heap.size + 1 := by omega
        have hz2 : ¬ w.heap.size + 1 = w4.heap.size := by omega
        have hz3 : ¬ w4.heap.size = gn := by omega
        have n1 : Hid (w.heap.size + 1 ≠ w4.heap.size) := by show _ ≠ _; omega
        have n2 : Hid (gn ≠ w4.heap.size) := by show _ ≠ _; omega
        have n3 : Hid (gn ≠ w.heap.size + 1) := by show _ ≠ _; omega
        have n4 : Hid (w4.heap.size ≠ w.heap.size + 1) := by show _ ≠ _; omega
        clear hB
        go_wp2_with fail
        go_loopw [37] (fun i wr => ∃ (j : Nat) (bc rc' : List Int), j ≤ rn ∧ i = .int .i64 j ∧ Hid (Mid rn j (bestL best (rideL t rd)) best bc) ∧ Hid (Mid rn j (readyN change best (rideL t rd)) (List.replicate rn 0) rc') ∧ Blk wr (w.heap.size + 1) 3 (rowA bc) ∧ Blk wr w4.heap.size 3 (rowA rc') ∧ Blk wr gn 3 (rowA (rideL t rd)) ∧ Later wb wr) (fun i _ => rn - (intOf i).toNat)
        case atStart => exact ⟨0, best, _, by omega, rfl, .start (by rw [HLB.out.lb, HRN.out]), .start (by simp), hB4.alloc _, heap_new rfl, hBn.alloc _, inferInstance⟩
        case round =>
          obtain ⟨j, bc, rcc, hj, rfl, HM, HM2, hB, hBr, hBn', hX⟩ := hrel
          by_cases hlj : j < rn
          · obtain ⟨a, ha⟩ : ∃ a, (rideL t rd)[j]? = some a := ⟨_, List.getElem?_eq_getElem (by rw [HNL.out, ← HRN.out]; exact hlj)⟩
            obtain ⟨b, hb⟩ : ∃ b, best[j]? = some b := ⟨_, List.getElem?_eq_getElem (by rw [HLB.out.lb, ← HRN.out]; exact hlj)⟩
            obtain ⟨r0, hr0⟩ : ∃ r, rcc[j]? = some r := ⟨_, List.getElem?_eq_getElem (by rw [HM2.out.len]; exact hlj)⟩
            have hab : 0 ≤ a ∧ a ≤ 1073741824 := by have := HSB.out j (by omega) (by have := HRN.out; omega); rw [gi_at ha] at this; exact this
            have ha0 := hab.1
            have ha1 := hab.2
            have hbc : bc[j]? = some b := by rw [HM.out.ge j (Nat.le_refl _)]; exact hb
            have hn1 := bestL_at ha hb
            have hn2 := readyN_at (change := change) ha hb
            have hca := hBn'.rowAts ha
            have hcb := hB.rowAts hbc
            have hfb := hB.frozen j
            have hcb2 : ∀ v, (wr.setCell ⟨w4.heap.size, j, none⟩ v).cell? ⟨w.heap.size + 1, j, none⟩ = some (.int .i64 b) := fun v => (hB.far (p := ⟨w4.heap.size, j, none⟩) n1.out v).rowAt hbc
            have hcr := hBr.rowAt hr0
            have hfr := hBr.frozen j
            have hwr : IntKind.i64.wrap (a + change) = a + change := by rw [IntKind.wrap_i64]; omega
            have HN1 := Lib.hid hn1
            have HN2 := Lib.hid hn2
            have HBJ := Lib.hid hb
            clear ha hb hr0 hab hn1 hn2 hbc
            by_cases hlt2 : a < b
            · have HN1' : Hid ((bestL best (rideL t rd))[j]? = some a) := by have := HN1.out; rwa [if_pos hlt2] at this
              have HN2' : Hid ((readyN change best (rideL t rd))[j]? = some (a + change)) := by have := HN2.out; rwa [if_pos hlt2] at this
              clear HN1 HN2
              go_wp2
              go_roundw
              case rel =>
                have q1 := ((hB.far (p := ⟨w4.heap.size, j, none⟩) n1.out (.int .i64 1073741824)).rowSet (k := j) a).far (p := ⟨w4.heap.size, j, none⟩) n1.out (.int .i64 (a + change))
                have q2 := ((hBr.rowSet (k := j) 1073741824).far (p := ⟨w.heap.size + 1, j, none⟩) n4.out (.int .i64 a)).rowSet (k := j) (a + change)
                have q3 := ((hBn'.far (p := ⟨w4.heap.size, j, none⟩) n2.out (.int .i64 1073741824)).far (p := ⟨w.heap.size + 1, j, none⟩) n3.out (.int .i64 a)).far (p := ⟨w4.heap.size, j, none⟩) n2.out (.int .i64 (a + change))
                rw [set_set_at] at q2
                exact ⟨j + 1, _, _, by omega, by go_num, HM.out.put hlj HN1'.out, HM2.out.put hlj HN2'.out, q1, q2, q3, inferInstance⟩
              case measure => simp [intOf]; omega
            · have HN1' : Hid ((bestL best (rideL t rd))[j]? = some b) := by have := HN1.out; rwa [if_neg hlt2] at this
              have HN2' : Hid ((readyN change best (rideL t rd))[j]? = some 1073741824) := by have := HN2.out; rwa [if_neg hlt2] at this
              clear HN1 HN2
              go_wp2
              go_roundw
              case rel => exact ⟨j + 1, bc, rcc.set j 1073741824, by omega, by go_num, HM.out.keep HBJ.out HN1'.out, HM2.out.put hlj HN2'.out, hB.far (p := ⟨w4.heap.size, j, none⟩) n1.out _, hBr.rowSet _, hBn'.far (p := ⟨w4.heap.size, j, none⟩) n2.out _, inferInstance⟩
              case measure => simp [intOf]; omega
          · have HD1 := Lib.hid (HM.out.done (by omega) (by rw [RF2.out.lb, HRN.out]))
            have HD2 := Lib.hid (HM2.out.done (by omega) (by rw [RF2.out.lr, HRN.out]))
            clear HM HM2
            go_wp2
            go_roundw
            case rel =>
              have e1 := HD1.out
              have e2 := HD2.out
              subst e1 e2
              exact ⟨k + 1, _, _, _, _, by omega, by go_num, rfl, ⟨RF2.out, HE.out⟩, hBr.ints (by rw [RF2.out.lr]; exact HRN.out) (by omega) RF2.out.sr.i64, hB, inferInstance⟩
            case measure => simp [intOf]; omega
      · have HE : Hid (best = arrL t change ready legs) := by
          have h9 := HF.out.2
          rw [show legs - k = 0 by omega] at h9
          exact h9
        go_wp2
        go_ret
        rw [← HE.out]
        exact ⟨_, rfl, by rw [HF.out.1.lb]; exact HRN.out, hB, by omega, hww.trans inferInstance⟩
theorem impl_arrivalsI {w0 w : World} {sA0 : Option Addr} {sn0 sc0 : Nat} {sA1 : Option Addr} {sn1 sc1 : Nat} {sA2 : Option Addr} {sn2 sc2 : Nat} {t : Timetable} (h : TimetableAt w0 sA0 sn0 sc0 sA1 sn1 sc1 sA2 sn2 sc2 t) (hl : Later w0 w) {w3 : World} (tf : TimeFacts t) (change : Int) (ch0 : 0 ≤ change) (ch1 : change ≤ 30) {rA : Option Addr} {rn rc : Nat} {ready : List Int} (h3 : Ints w3 rA rn rc ready) (hl3 : Later w3 w) (hrn : ready.length = t.Network.Stops.length) (hsm : Small ready) (legs : Nat) (hlg : legs ≤ 100) (n : Int) (hn : n = legs) :
    Calls Try.prog 123 #[.agg #[.slice sA0 sn0 sc0, .slice sA1 sn1 sc1, .slice sA2 sn2 sc2], .int .i64 change, .slice rA rn rc, .int .i64 n] w (RetB rn (arrL t change ready legs) w) := by
  subst hn
  exact impl_arrivals h hl tf change ch0 ch1 h3 hl3 hrn hsm legs hlg
end Go.Proofs.Yteijofkkggifhaa
