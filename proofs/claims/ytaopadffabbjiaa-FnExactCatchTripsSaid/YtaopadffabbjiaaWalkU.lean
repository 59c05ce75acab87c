/-
  Walks, in the program: the table of the shortest ways (walkTable).
-/
import Derived.Test.YtaopadffabbjiaaWalkT
namespace Go.Proofs.Ytaopadffabbjiaa
open Go Go.RowKit
set_option linter.unusedVariables false
set_option maxRecDepth 100000
set_option linter.unusedSimpArgs false
def tblW (k : Nat) (l : List Walk) (n : Nat) : List (List Int) := (l.take n).foldl putW (tab0 k)
def tblM (k : Nat) (l : List Walk) (m : Nat) : List (List Int) := (List.range m).foldl (fwI k) (fwW k l)
def tblI (k : Nat) (l : List Walk) (m i : Nat) : List (List Int) := (List.range i).foldl (fwJ k m) (tblM k l m)
def tblJ (k : Nat) (l : List Walk) (m i j : Nat) : List (List Int) := (List.range j).foldl (rlx m i) (tblI k l m i)
section
variable {k : Nat} {l : List Walk}
theorem tblW_step {n : Nat} {x : Walk} (h : l[n]? = some x) : tblW k l (n + 1) = putW (tblW k l n) x := by
  unfold tblW; rw [List.take_add_one, h, List.foldl_append]; rfl
theorem tblM_step {m : Nat} : tblI k l m k = tblM k l (m + 1) := by
  unfold tblI tblM; rw [List.range_succ, List.foldl_append]; rfl
theorem tblI_step {m i : Nat} : tblJ k l m i k = tblI k l m (i + 1) := by
  unfold tblJ tblI; rw [List.range_succ, List.foldl_append]; rfl
theorem tblJ_step {m i j : Nat} : tblJ k l m i (j + 1) = rlx m i (tblJ k l m i j) j := by
  unfold tblJ; rw [List.range_succ, List.foldl_append]; rfl
theorem tblM_tab (hf : WalkFacts k l) (hk : k ≤ 8) : ∀ m, m ≤ k → Tab k l m (tblM k l m) := by
  intro m
  induction m with
  | zero => exact fun _ => tab_W hf
  | succ m ih => intro hm; unfold tblM; rw [List.range_succ, List.foldl_append]; exact (ih (by omega)).step (by omega) hk
theorem tblJ_mid (hf : WalkFacts k l) (hk : k ≤ 8) {m i j : Nat} (hm : m < k) (hi : i < k) (hj : j ≤ k) : Mid2 k m (tblM k l m) (tblJ k l m i j) (fun a b => a < i ∨ (a = i ∧ b < j)) := by
  have t := tblM_tab hf hk m (by omega)
  exact mid_J (t.diag m hm) hm hi j hj (mid_I t.sh (t.diag m hm) hm i (by omega))
theorem tblJ_bd (hf : WalkFacts k l) (hk : k ≤ 8) {m i j a b : Nat} (hm : m < k) (hi : i < k) (hj : j ≤ k) (ha : a < k) (hb : b < k) : -1 ≤ tg (tblJ k l m i j) a b ∧ tg (tblJ k l m i j) a b ≤ 61440 :=
  mid_bd (tblJ_mid hf hk hm hi hj) (tblM_tab hf hk m (by omega)) hm hk ha hb
theorem tblW_shape (n : Nat) : Shape k (tblW k l n) := by
  unfold tblW
  refine foldl_inv (P := Shape k) ⟨by simp [tab0], fun i hi => by rw [tab0_at hi]; simp⟩ fun T w _ hs => ?_
  exact (hs.put _ _ _).put _ _ _
end
/-- A result that is such a table. -/
def RetTab (T : List (List Int)) (w : World) (e : Ending) (w' : World) : Prop := ∃ A n c, e = .returned (.slice A n c) ∧ Rows w' A n c T ∧ Later w w'
set_option maxHeartbeats 8000000 in
theorem impl_walkTable {w0 w w2 : World} {sA0 : Option Addr} {sn0 sc0 : Nat} {sA1 : Option Addr} {sn1 sc1 : Nat} {r : Network} (h : NetworkAt w0 sA0 sn0 sc0 sA1 sn1 sc1 r) (hl : Later w0 w) {A : Option Addr} {n c : Nat} {l : List Walk} (h2 : Walks w2 A n c l) (hl2 : Later w2 w) (hf : WalkFacts r.Stops.length l) (h8 : r.Stops.length ≤ 8) :
    Calls Try.prog 65 #[.agg #[.slice sA0 sn0 sc0, .slice sA1 sn1 sc1], .slice A n c] w (RetTab (fwT r.Stops.length l) w) := by
  replace h2 := h2.later hl2
  have hn := h2.le
  have HL := Lib.hid h2.len
  have hS := h.l_Stops
  have HSN := Lib.hid hS.len
  clear hS
  rw [← HSN.out] at hf h8 ⊢
  have HF := Lib.hid hf
  have hmk := make_ints sn0 (by omega)
  obtain ⟨C0, hC0, hmk2⟩ := make_row (P := Try.prog) 29 67 Try.underlying29 infoRow sn0 (by omega) (by omega)
  clear hf
  have HB0 : ∀ W [Later (w.alloc (.cells #[.slice sA0 sn0 sc0, .slice sA1 sn1 sc1] 38)) W] (j : Nat), W.cell? ⟨w.heap.size, j, none⟩ = #[.slice sA0 sn0 sc0, .slice sA1 sn1 sc1][j]? := Later.boxes (t := 38) (fr := (0, 0)) (heap_new (by simp; try omega)); obtain ⟨wb, hwb⟩ : ∃ wb : World, wb = (w.alloc (.cells #[.slice sA0 sn0 sc0, .slice sA1 sn1 sc1] 38)) := ⟨_, rfl⟩; haveI hbW : Later wb (w.alloc (.cells #[.slice sA0 sn0 sc0, .slice sA1 sn1 sc1] 38)) := (by rw [hwb]; exact Later.rfl_); haveI hww : Later w wb := (by rw [hwb]; infer_instance); rw [← hwb] at HB0; have hbE := Lib.hid (congrArg (fun x : World => x.heap.size) hwb); clear hwb
  have hwb0 := hl.trans hww
  have H := Lib.hid h
  clear h
  replace h2 := h2.later hww
  have H2 := Lib.hid h2
  clear h2
  have hbs : wb.heap.size ≤ w.heap.size + 1 := by have := hbE.out; simp at this; omega
  have hbs2 : w.heap.size + 1 ≤ wb.heap.size := by have := hbE.out; simp at this; omega
  haveI hN : New wb (w.heap.size + 1) := ⟨hbs⟩
  obtain ⟨g, hg⟩ : ∃ g, g = w.heap.size + 1 := ⟨_, rfl⟩
  haveI hNg : New wb g := ⟨by omega⟩
  go_enter Try.func65, Try.ntmps65
  go_wp2_with fail
  go_loopw [22] (fun iv wr => ∃ (i : Nat) (G : Nat → Nat), i ≤ sn0 ∧ iv = .int .i64 i ∧ Hid (TabAt wr (w.heap.size + 1) G sn0 i (fun a => (tab0 sn0).getD a [])) ∧ Hid (∀ a, a < i → wb.heap.size ≤ G a) ∧ Later wb wr) (fun iv _ => sn0 - (intOf iv).toNat)
  case atStart => exact ⟨0, fun _ => 0, by omega, rfl, ⟨⟨C0, heap_new (by simp), by simpa using hC0, fun i hi => by omega⟩, fun i hi => by omega, fun i hi => by omega, fun i j hi => by omega⟩, fun a ha => by omega, inferInstance⟩
  case round =>
    obtain ⟨i, G, hi, rfl, HT, HG, hX⟩ := hrel
    obtain ⟨w6, rfl⟩ : ∃ w6 : World, w6 = wr := ⟨_, rfl⟩
    by_cases hik : i < sn0
    · have hit : (i : Int) < sn0 := by omega
      obtain ⟨cs, hB, hsz, _⟩ := HT.out.top
      obtain ⟨v0, hv0⟩ : ∃ v, cs[i]? = some v := ⟨_, Array.getElem?_eq_getElem (by omega)⟩
      have hc0 : ∀ W [Later w6 W], W.cell? ⟨w.heap.size + 1, i, none⟩ = some v0 := fun W hW => ((hB.later hW).cell i).trans hv0
      have hf0 := HT.out.frozenTop i
      have HT1 := Lib.hid (HT.out.push hik)
      have HGI : Hid (wb.heap.size ≤ w6.heap.size) := by show _ ≤ _; exact hX.size
      have hgl : w.heap.size + 1 < w6.heap.size := hB.lt
      clear hB hsz hv0 HT
      go_wp2_with fail
      obtain ⟨w7, hw7⟩ : ∃ W : World, W = ((w6.setCell ⟨w.heap.size + 1, i, none⟩ (.slice (some ⟨w6.heap.size, 0, none⟩) sn0 sn0)).alloc (.cells (rowA (List.replicate sn0 0)) 3)) := ⟨_, rfl⟩
      rw [World.setCell_alloc_past _ _ _ _ hgl] at HT1
      rw [← hw7] at HT1 ⊢
      haveI hb7 : Later wb w7 := by rw [hw7]; infer_instance
      haveI hN6 : New wb w6.heap.size := ⟨HGI.out⟩
      clear hw7 hc0 hf0
      go_loopw [35] (fun jv wr => ∃ j : Nat, j ≤ sn0 ∧ jv = .int .i64 j ∧ Hid (TabAt wr (w.heap.size + 1) (fun a => if a = i then w6.heap.size else G a) sn0 (i + 1) (fun a => if a = i then rowJ sn0 i j else (tab0 sn0).getD a [])) ∧ Later wb wr) (fun jv _ => sn0 - (intOf jv).toNat)
      case atStart => exact ⟨0, by omega, rfl, (Lib.hid (HT1.out.congr fun a ha => by by_cases e : a = i; rw [if_pos e, if_pos e, rowJ_0]; rw [if_neg e, if_neg e])), inferInstance⟩
      case round =>
        obtain ⟨j, hj, rfl, HTJ, hX⟩ := hrel
        have hct := HTJ.out.cellTop (i := i) (by omega)
        rw [if_pos rfl] at hct
        by_cases hjk : j < sn0
        · have hjt : (j : Int) < sn0 := by omega
          by_cases hij : i = j
          · have e1 := bnei_f (show (i : Int) = (j : Int) by omega)
            have HT2 : Hid (TabAt wr (w.heap.size + 1) (fun a => if a = i then w6.heap.size else G a) sn0 (i + 1) (fun a => if a = i then rowJ sn0 i (j + 1) else (tab0 sn0).getD a [])) := Lib.hid (HTJ.out.congr fun a ha => by
              by_cases e : a = i
              · rw [if_pos e, if_pos e, ← hij, rowJ_same]
              · rw [if_neg e, if_neg e])
            clear hij HTJ
            go_wp2
            go_roundw
            case rel => exact ⟨j + 1, by omega, by go_num, HT2, inferInstance⟩
            case measure => simp [intOf]; omega
          · have e1 := bnei_t (show ¬ (i : Int) = (j : Int) by omega)
            have hcc := HTJ.out.cell (i := i) (j := j) (v := 0) (by omega) (by rw [if_pos rfl, rowJ_at hjk, if_neg (by omega)])
            have hfr := HTJ.out.frozen (i := i) (j := j) (by omega)
            rw [if_pos rfl] at hcc hfr
            have HT2 := Lib.hid ((HTJ.out.set_ (i := i) (by omega) j (-1)).congr (R' := fun a => if a = i then rowJ sn0 i (j + 1) else (tab0 sn0).getD a []) fun a ha => by
              by_cases e : a = i
              · rw [if_pos e, if_pos e, if_pos rfl, rowJ_step hij hjk]
              · rw [if_neg e, if_neg e, if_neg e])
            rw [if_pos rfl] at HT2
            clear HTJ hij
            go_wp2
            go_roundw
            case rel => exact ⟨j + 1, by omega, by go_num, HT2, inferInstance⟩
            case measure => simp [intOf]; omega
        · have hjt : ¬ (j : Int) < sn0 := by omega
          have HT2 := Lib.hid (HTJ.out.congr (R' := fun a => (tab0 sn0).getD a []) fun a ha => by
            by_cases e : a = i
            · subst e; rw [if_pos rfl, show j = sn0 by omega, rowJ_end (by omega), tab0_at (by omega)]
            · rw [if_neg e])
          clear HTJ
          go_wp2
          go_roundw
          case rel => exact ⟨i + 1, _, by omega, by go_num, HT2, fun a ha => by
            by_cases e : a = i
            · rw [if_pos e]; exact HGI.out
            · rw [if_neg e]; exact HG.out a (by omega), inferInstance⟩
          case measure => simp [intOf]; omega
    · obtain rfl : i = sn0 := by omega
      have hit : ¬ (i : Int) < i := by omega
      clear hmk hmk2 hC0
      go_wp2_with fail
      go_loopw [51] (fun iv wr => ∃ q : Nat, q ≤ n ∧ iv = .int .i64 q ∧ Hid (TabAt wr (w.heap.size + 1) G i i (fun a => (tblW i l q).getD a [])) ∧ Later wb wr) (fun iv _ => n - (intOf iv).toNat)
      case atStart => exact ⟨0, by omega, rfl, HT, inferInstance⟩
      case round =>
        obtain ⟨q, hq, rfl, HT, hX⟩ := hrel
        by_cases hqn : q < n
        · obtain ⟨b, o, x, hA, hx, hc0, hc1, hc2, _⟩ := Walks.at_ H2.out hqn
          have hok := HF.out.ok q x hx.out
          obtain ⟨a, ha⟩ := Int.eq_ofNat_of_zero_le hok.1
          obtain ⟨e, he⟩ := Int.eq_ofNat_of_zero_le (show 0 ≤ x.B by omega)
          obtain ⟨M, hM⟩ : ∃ M, x.Minutes = M := ⟨_, rfl⟩
          have hai : a < i := by omega
          have hei : e < i := by omega
          have hae : ¬ a = e := by omega
          have haI : (a : Int) < i := by omega
          have heI : (e : Int) < i := by omega
          rw [ha] at hc0
          rw [he] at hc1
          rw [hM] at hc2
          have HS : Hid (tblW i l (q + 1) = tset (tset (tblW i l q) a e M) e a M) := by
            show _ = _
            rw [tblW_step hx.out]; unfold putW; rw [ha, he, hM]; rfl
          have hqi : (q : Int) < n := by omega
          subst hA
          clear hx hok ha he hM
          go_wp2_with fail
          obtain ⟨wy, hwy⟩ : ∃ W : World, W = wr.alloc (.cells #[.int .i64 a, .int .i64 e, .int .i64 M] 103) := ⟨_, rfl⟩
          rw [← hwy]
          have hbox : Blk wy wr.heap.size 103 #[.int .i64 a, .int .i64 e, .int .i64 M] := by rw [hwy]; exact Blk.new _ _ _
          haveI hry : Later wr wy := by rw [hwy]; infer_instance
          haveI hby : Later wb wy := Later.trans hX hry
          have HTy := Lib.hid (HT.out.later hry)
          have HSH := Lib.hid (tblW_shape (k := i) (l := l) q)
          obtain ⟨cs, hBt, hsz, hcs⟩ := HTy.out.top
          have hta := hcs a hai
          have hte := hcs e hei
          have hGa := HG.out a hai
          have hGe := HG.out e hei
          have hlr : ∀ z, z < i → G z < wr.heap.size := fun z hz => (HT.out.row z hz).lt
          have hla := hlr a hai
          have hle := hlr e hei
          have hn1 := HTy.out.ne a hai
          have hn2 := HTy.out.ne e hei
          have hn3 : ¬ G a = G e := fun e2 => hae (HTy.out.inj a e hai hei e2)
          have hn4 : ¬ G e = G a := fun e2 => hn3 e2.symm
          have hra := Lib.hid (HTy.out.row a hai)
          have hre := Lib.hid (HTy.out.row e hei)
          have hca := HTy.out.cell hai (tg_at HSH.out hai hei)
          have hfa := HTy.out.frozen (i := a) (j := e) hai
          have hce : ∀ W [Later wy W] (u : Value), (W.setCell ⟨G a, e, none⟩ u).cell? ⟨G e, a, none⟩ = some (.int .i64 (tg (tblW i l q) e a)) := fun W hW u => ((hre.out.later hW).far (p := ⟨G a, e, none⟩) hn4 u).rowAt (tg_at HSH.out hei hai)
          have hfe : ∀ W [Later wy W] (u : Value), (W.setCell ⟨G a, e, none⟩ u).frozen? ⟨G e, a, none⟩ = false := fun W hW u => ((hre.out.later hW).far (p := ⟨G a, e, none⟩) hn4 u).frozen a
          haveI hNa : New wb (G a) := ⟨hGa⟩
          haveI hNe : New wb (G e) := ⟨hGe⟩
          have HT2 : Hid (TabAt ((wy.drew.setCell ⟨G a, e, none⟩ (.int .i64 M)).setCell ⟨G e, a, none⟩ (.int .i64 M)) (w.heap.size + 1) G i i (fun z => (tblW i l (q + 1)).getD z [])) := by
            rw [HS.out]
            exact Lib.hid ((((HTy.out.later (inferInstance : Later wy wy.drew)).tset_ HSH.out hai e M)).tset_ (HSH.out.put a e M) hei a M)
          clear hwy HT hcs hlr
          refine wp_region_held_drew (S := (fun w' => Blk w' (w.heap.size + 1) 67 cs ∧ Blk w' wr.heap.size 103 #[.int .i64 a, .int .i64 e, .int .i64 M] ∧ Later wb w')) (by kernel_rfl) (by first | exact ⟨hBt, hbox, inferInstance⟩ | exact ⟨hBt.far (p := ⟨G a, e, none⟩) (Ne.symm hn1) _, hbox.far (p := ⟨G a, e, none⟩) (by show ¬ _ = G a; omega) _, inferInstance⟩ | exact ⟨(hBt.far (p := ⟨G a, e, none⟩) (Ne.symm hn1) _).far (p := ⟨G e, a, none⟩) (Ne.symm hn2) _, (hbox.far (p := ⟨G a, e, none⟩) (by show ¬ _ = G a; omega) _).far (p := ⟨G e, a, none⟩) (by show ¬ _ = G e; omega) _, inferInstance⟩) (fun hHeld => ?_)
          refine wpAnyH_take (i := 0) (v := ?_) (by simp only [List.getElem?_toArray, List.getElem?_cons_zero] <;> rfl) (by kernel_rfl) (by kernel_rfl) (by kernel_rfl) (by exact fun _ _ _ h => h) (Or.inl ⟨by kernel_rfl, ?_⟩) (by assumption) ?_
          rotate_left
          · intro w' hSw; (try dsimp only at hSw); obtain ⟨hS1, hS2, hS3⟩ := hSw; have hq1 := (hS1.cell a).trans hta; have hq2 := (hS1.cell e).trans hte; have hq3 := (hS2.cell 0).trans (show _ = some (.int .i64 (a : Int) : Value) from rfl); have hq4 := (hS2.cell 1).trans (show _ = some (.int .i64 (e : Int) : Value) from rfl); have hq5 := (hS2.cell 2).trans (show _ = some (.int .i64 M : Value) from rfl); go_simp; try with_reducible rfl
          try simp only [Act.put, List.setIfInBounds_toArray, List.set_cons_zero, List.set_cons_succ]
          refine wpAnyH_take (i := 1) (v := ?_) (by simp only [List.getElem?_toArray, List.getElem?_cons_succ, List.getElem?_cons_zero] <;> rfl) (by kernel_rfl) (by kernel_rfl) (by kernel_rfl) (by exact fun _ _ _ h => h) (Or.inl ⟨by kernel_rfl, ?_⟩) (by assumption) ?_
          rotate_left
          · intro w' hSw; (try dsimp only at hSw); obtain ⟨hS1, hS2, hS3⟩ := hSw; have hq1 := (hS1.cell a).trans hta; have hq2 := (hS1.cell e).trans hte; have hq3 := (hS2.cell 0).trans (show _ = some (.int .i64 (a : Int) : Value) from rfl); have hq4 := (hS2.cell 1).trans (show _ = some (.int .i64 (e : Int) : Value) from rfl); have hq5 := (hS2.cell 2).trans (show _ = some (.int .i64 M : Value) from rfl); go_simp; try with_reducible rfl
          try simp only [Act.put, List.setIfInBounds_toArray, List.set_cons_zero, List.set_cons_succ]
          refine wpAnyH_take (i := 2) (v := ?_) (by simp only [List.getElem?_toArray, List.getElem?_cons_succ, List.getElem?_cons_zero] <;> rfl) (by kernel_rfl) (by kernel_rfl) (by kernel_rfl) (by exact fun _ _ _ h => h) (Or.inl ⟨by kernel_rfl, ?_⟩) (by assumption) ?_
          rotate_left
          · intro w' hSw; (try dsimp only at hSw); obtain ⟨hS1, hS2, hS3⟩ := hSw; have hq1 := (hS1.cell a).trans hta; have hq2 := (hS1.cell e).trans hte; have hq3 := (hS2.cell 0).trans (show _ = some (.int .i64 (a : Int) : Value) from rfl); have hq4 := (hS2.cell 1).trans (show _ = some (.int .i64 (e : Int) : Value) from rfl); have hq5 := (hS2.cell 2).trans (show _ = some (.int .i64 M : Value) from rfl); go_simp; try with_reducible rfl
          try simp only [Act.put, List.setIfInBounds_toArray, List.set_cons_zero, List.set_cons_succ]
          refine wpAnyH_take (i := 3) (v := ?_) (by simp only [List.getElem?_toArray, List.getElem?_cons_succ, List.getElem?_cons_zero] <;> rfl) (by kernel_rfl) (by kernel_rfl) (by kernel_rfl) (by exact fun _ _ _ h => h) (Or.inl ⟨by kernel_rfl, ?_⟩) (by assumption) ?_
          rotate_left
          · intro w' hSw; (try dsimp only at hSw); obtain ⟨hS1, hS2, hS3⟩ := hSw; have hq1 := (hS1.cell a).trans hta; have hq2 := (hS1.cell e).trans hte; have hq3 := (hS2.cell 0).trans (show _ = some (.int .i64 (a : Int) : Value) from rfl); have hq4 := (hS2.cell 1).trans (show _ = some (.int .i64 (e : Int) : Value) from rfl); have hq5 := (hS2.cell 2).trans (show _ = some (.int .i64 M : Value) from rfl); go_simp; try with_reducible rfl
          try simp only [Act.put, List.setIfInBounds_toArray, List.set_cons_zero, List.set_cons_succ]
          refine wpAnyH_take (i := 4) (v := ?_) (by simp only [List.getElem?_toArray, List.getElem?_cons_succ, List.getElem?_cons_zero] <;> rfl) (by kernel_rfl) (by kernel_rfl) (by kernel_rfl) (by exact fun _ _ _ h => h) (Or.inl ⟨by kernel_rfl, ?_⟩) (by assumption) ?_
          rotate_left
          · intro w' hSw; (try dsimp only at hSw); obtain ⟨hS1, hS2, hS3⟩ := hSw; have hq1 := (hS1.cell a).trans hta; have hq2 := (hS1.cell e).trans hte; have hq3 := (hS2.cell 0).trans (show _ = some (.int .i64 (a : Int) : Value) from rfl); have hq4 := (hS2.cell 1).trans (show _ = some (.int .i64 (e : Int) : Value) from rfl); have hq5 := (hS2.cell 2).trans (show _ = some (.int .i64 M : Value) from rfl); go_simp; try with_reducible rfl
          try simp only [Act.put, List.setIfInBounds_toArray, List.set_cons_zero, List.set_cons_succ]
          refine wpAnyH_take (i := 5) (v := ?_) (by simp only [List.getElem?_toArray, List.getElem?_cons_succ, List.getElem?_cons_zero] <;> rfl) (by kernel_rfl) (by kernel_rfl) (by kernel_rfl) (by exact fun _ _ _ h => h) (Or.inl ⟨by kernel_rfl, ?_⟩) (by assumption) ?_
          rotate_left
          · intro w' hSw; (try dsimp only at hSw); obtain ⟨hS1, hS2, hS3⟩ := hSw; have hq1 := (hS1.cell a).trans hta; have hq2 := (hS1.cell e).trans hte; have hq3 := (hS2.cell 0).trans (show _ = some (.int .i64 (a : Int) : Value) from rfl); have hq4 := (hS2.cell 1).trans (show _ = some (.int .i64 (e : Int) : Value) from rfl); have hq5 := (hS2.cell 2).trans (show _ = some (.int .i64 M : Value) from rfl); go_simp; try with_reducible rfl
          try simp only [Act.put, List.setIfInBounds_toArray, List.set_cons_zero, List.set_cons_succ]
          refine wpAnyH_take (i := 6) (v := ?_) (by simp only [List.getElem?_toArray, List.getElem?_cons_succ, List.getElem?_cons_zero] <;> rfl) (by kernel_rfl) (by kernel_rfl) (by kernel_rfl) (by exact fun _ _ _ h => h) (Or.inl ⟨by kernel_rfl, ?_⟩) (by assumption) ?_
          rotate_left
          · intro w' hSw; (try dsimp only at hSw); obtain ⟨hS1, hS2, hS3⟩ := hSw; have hq1 := (hS1.cell a).trans hta; have hq2 := (hS1.cell e).trans hte; have hq3 := (hS2.cell 0).trans (show _ = some (.int .i64 (a : Int) : Value) from rfl); have hq4 := (hS2.cell 1).trans (show _ = some (.int .i64 (e : Int) : Value) from rfl); have hq5 := (hS2.cell 2).trans (show _ = some (.int .i64 M : Value) from rfl); go_simp; try with_reducible rfl
          try simp only [Act.put, List.setIfInBounds_toArray, List.set_cons_zero, List.set_cons_succ]
          refine wpAnyH_take (i := 7) (v := ?_) (by simp only [List.getElem?_toArray, List.getElem?_cons_succ, List.getElem?_cons_zero] <;> rfl) (by kernel_rfl) (by kernel_rfl) (by kernel_rfl) (by exact fun _ _ _ h => h) (Or.inl ⟨by kernel_rfl, ?_⟩) (by assumption) ?_
          rotate_left
          · intro w' hSw; (try dsimp only at hSw); obtain ⟨hS1, hS2, hS3⟩ := hSw; have hq1 := (hS1.cell a).trans hta; have hq2 := (hS1.cell e).trans hte; have hq3 := (hS2.cell 0).trans (show _ = some (.int .i64 (a : Int) : Value) from rfl); have hq4 := (hS2.cell 1).trans (show _ = some (.int .i64 (e : Int) : Value) from rfl); have hq5 := (hS2.cell 2).trans (show _ = some (.int .i64 M : Value) from rfl); go_simp; try with_reducible rfl
          try simp only [Act.put, List.setIfInBounds_toArray, List.set_cons_zero, List.set_cons_succ]
          refine wpAnyH_take (i := 8) (v := ?_) (by simp only [List.getElem?_toArray, List.getElem?_cons_succ, List.getElem?_cons_zero] <;> rfl) (by kernel_rfl) (by kernel_rfl) (by kernel_rfl) (by exact fun _ _ _ h => h) (Or.inl ⟨by kernel_rfl, ?_⟩) (by assumption) ?_
          rotate_left
          · intro w' hSw; (try dsimp only at hSw); obtain ⟨hS1, hS2, hS3⟩ := hSw; have hq1 := (hS1.cell a).trans hta; have hq2 := (hS1.cell e).trans hte; have hq3 := (hS2.cell 0).trans (show _ = some (.int .i64 (a : Int) : Value) from rfl); have hq4 := (hS2.cell 1).trans (show _ = some (.int .i64 (e : Int) : Value) from rfl); have hq5 := (hS2.cell 2).trans (show _ = some (.int .i64 M : Value) from rfl); go_simp; try with_reducible rfl
          try simp only [Act.put, List.setIfInBounds_toArray, List.set_cons_zero, List.set_cons_succ]
          refine wpAnyH_take (i := 9) (v := ?_) (by simp only [List.getElem?_toArray, List.getElem?_cons_succ, List.getElem?_cons_zero] <;> rfl) (by kernel_rfl) (by kernel_rfl) (by kernel_rfl) (by exact fun _ _ _ h => h) (Or.inl ⟨by kernel_rfl, ?_⟩) (by assumption) ?_
          rotate_left
          · intro w' hSw; (try dsimp only at hSw); obtain ⟨hS1, hS2, hS3⟩ := hSw; have hq1 := (hS1.cell a).trans hta; have hq2 := (hS1.cell e).trans hte; have hq3 := (hS2.cell 0).trans (show _ = some (.int .i64 (a : Int) : Value) from rfl); have hq4 := (hS2.cell 1).trans (show _ = some (.int .i64 (e : Int) : Value) from rfl); have hq5 := (hS2.cell 2).trans (show _ = some (.int .i64 M : Value) from rfl); go_simp; try with_reducible rfl
          try simp only [Act.put, List.setIfInBounds_toArray, List.set_cons_zero, List.set_cons_succ]
          refine wpAnyH_take (i := 10) (v := ?_) (by simp only [List.getElem?_toArray, List.getElem?_cons_succ, List.getElem?_cons_zero] <;> rfl) (by kernel_rfl) (by kernel_rfl) (by kernel_rfl) (by exact fun _ _ _ h => h) (Or.inl ⟨by kernel_rfl, ?_⟩) (by assumption) ?_
          rotate_left
          · intro w' hSw; (try dsimp only at hSw); obtain ⟨hS1, hS2, hS3⟩ := hSw; have hq1 := (hS1.cell a).trans hta; have hq2 := (hS1.cell e).trans hte; have hq3 := (hS2.cell 0).trans (show _ = some (.int .i64 (a : Int) : Value) from rfl); have hq4 := (hS2.cell 1).trans (show _ = some (.int .i64 (e : Int) : Value) from rfl); have hq5 := (hS2.cell 2).trans (show _ = some (.int .i64 M : Value) from rfl); go_simp; try with_reducible rfl
          try simp only [Act.put, List.setIfInBounds_toArray, List.set_cons_zero, List.set_cons_succ]
          refine wpAnyH_take (i := 11) (v := ?_) (by simp only [List.getElem?_toArray, List.getElem?_cons_succ, List.getElem?_cons_zero] <;> rfl) (by kernel_rfl) (by kernel_rfl) (by kernel_rfl) (by exact fun _ _ _ h => h) (Or.inl ⟨by kernel_rfl, ?_⟩) (by assumption) ?_
          rotate_left
          · intro w' hSw; (try dsimp only at hSw); obtain ⟨hS1, hS2, hS3⟩ := hSw; have hq1 := (hS1.cell a).trans hta; have hq2 := (hS1.cell e).trans hte; have hq3 := (hS2.cell 0).trans (show _ = some (.int .i64 (a : Int) : Value) from rfl); have hq4 := (hS2.cell 1).trans (show _ = some (.int .i64 (e : Int) : Value) from rfl); have hq5 := (hS2.cell 2).trans (show _ = some (.int .i64 M : Value) from rfl); go_simp; try with_reducible rfl
          try simp only [Act.put, List.setIfInBounds_toArray, List.set_cons_zero, List.set_cons_succ]
          refine wpAnyH_take (i := 12) (v := ?_) (by simp only [List.getElem?_toArray, List.getElem?_cons_succ, List.getElem?_cons_zero] <;> rfl) (by kernel_rfl) (by kernel_rfl) (by kernel_rfl) (by exact fun _ _ _ h => h) (Or.inl ⟨by kernel_rfl, ?_⟩) (by assumption) ?_
          rotate_left
          · intro w' hSw; (try dsimp only at hSw); obtain ⟨hS1, hS2, hS3⟩ := hSw; have hq1 := (hS1.cell a).trans hta; have hq2 := (hS1.cell e).trans hte; have hq3 := (hS2.cell 0).trans (show _ = some (.int .i64 (a : Int) : Value) from rfl); have hq4 := (hS2.cell 1).trans (show _ = some (.int .i64 (e : Int) : Value) from rfl); have hq5 := (hS2.cell 2).trans (show _ = some (.int .i64 M : Value) from rfl); go_simp; try with_reducible rfl
          try simp only [Act.put, List.setIfInBounds_toArray, List.set_cons_zero, List.set_cons_succ]
          refine wpAnyH_take (i := 13) (v := ?_) (by simp only [List.getElem?_toArray, List.getElem?_cons_succ, List.getElem?_cons_zero] <;> rfl) (by kernel_rfl) (by kernel_rfl) (by kernel_rfl) (by exact fun _ _ _ h => h) (Or.inl ⟨by kernel_rfl, ?_⟩) (by assumption) ?_
          rotate_left
          · intro w' hSw; (try dsimp only at hSw); obtain ⟨hS1, hS2, hS3⟩ := hSw; have hq1 := (hS1.cell a).trans hta; have hq2 := (hS1.cell e).trans hte; have hq3 := (hS2.cell 0).trans (show _ = some (.int .i64 (a : Int) : Value) from rfl); have hq4 := (hS2.cell 1).trans (show _ = some (.int .i64 (e : Int) : Value) from rfl); have hq5 := (hS2.cell 2).trans (show _ = some (.int .i64 M : Value) from rfl); go_simp; try with_reducible rfl
          try simp only [Act.put, List.setIfInBounds_toArray, List.set_cons_zero, List.set_cons_succ]
          refine wpAnyH_take (i := 14) (v := ?_) (by simp only [List.getElem?_toArray, List.getElem?_cons_succ, List.getElem?_cons_zero] <;> rfl) (by kernel_rfl) (by kernel_rfl) (by kernel_rfl) (by exact fun _ _ _ h => h) (Or.inl ⟨by kernel_rfl, ?_⟩) (by assumption) ?_
          rotate_left
          · intro w' hSw; (try dsimp only at hSw); obtain ⟨hS1, hS2, hS3⟩ := hSw; have hq1 := (hS1.cell a).trans hta; have hq2 := (hS1.cell e).trans hte; have hq3 := (hS2.cell 0).trans (show _ = some (.int .i64 (a : Int) : Value) from rfl); have hq4 := (hS2.cell 1).trans (show _ = some (.int .i64 (e : Int) : Value) from rfl); have hq5 := (hS2.cell 2).trans (show _ = some (.int .i64 M : Value) from rfl); go_simp; try with_reducible rfl
          try simp only [Act.put, List.setIfInBounds_toArray, List.set_cons_zero, List.set_cons_succ]
          refine wpAnyH_take (i := 15) (v := ?_) (by simp only [List.getElem?_toArray, List.getElem?_cons_succ, List.getElem?_cons_zero] <;> rfl) (by kernel_rfl) (by kernel_rfl) (by kernel_rfl) (by exact fun _ _ _ h => h) (Or.inl ⟨by kernel_rfl, ?_⟩) (by assumption) ?_
          rotate_left
          · intro w' hSw; (try dsimp only at hSw); obtain ⟨hS1, hS2, hS3⟩ := hSw; have hq1 := (hS1.cell a).trans hta; have hq2 := (hS1.cell e).trans hte; have hq3 := (hS2.cell 0).trans (show _ = some (.int .i64 (a : Int) : Value) from rfl); have hq4 := (hS2.cell 1).trans (show _ = some (.int .i64 (e : Int) : Value) from rfl); have hq5 := (hS2.cell 2).trans (show _ = some (.int .i64 M : Value) from rfl); go_simp; try with_reducible rfl
          try simp only [Act.put, List.setIfInBounds_toArray, List.set_cons_zero, List.set_cons_succ]
          refine wpAnyH_take (i := 16) (v := ?_) (by simp only [List.getElem?_toArray, List.getElem?_cons_succ, List.getElem?_cons_zero] <;> rfl) (by kernel_rfl) (by kernel_rfl) (by kernel_rfl) (by exact fun _ _ _ h => h) (Or.inl ⟨by kernel_rfl, ?_⟩) (by assumption) ?_
          rotate_left
          · intro w' hSw; (try dsimp only at hSw); obtain ⟨hS1, hS2, hS3⟩ := hSw; have hq1 := (hS1.cell a).trans hta; have hq2 := (hS1.cell e).trans hte; have hq3 := (hS2.cell 0).trans (show _ = some (.int .i64 (a : Int) : Value) from rfl); have hq4 := (hS2.cell 1).trans (show _ = some (.int .i64 (e : Int) : Value) from rfl); have hq5 := (hS2.cell 2).trans (show _ = some (.int .i64 M : Value) from rfl); go_simp; try with_reducible rfl
          try simp only [Act.put, List.setIfInBounds_toArray, List.set_cons_zero, List.set_cons_succ]
          refine wpAnyH_take (i := 17) (v := ?_) (by simp only [List.getElem?_toArray, List.getElem?_cons_succ, List.getElem?_cons_zero] <;> rfl) (by kernel_rfl) (by kernel_rfl) (by kernel_rfl) (by exact fun _ _ _ h => h) (Or.inl ⟨by kernel_rfl, ?_⟩) (by assumption) ?_
          rotate_left
          · intro w' hSw; (try dsimp only at hSw); obtain ⟨hS1, hS2, hS3⟩ := hSw; have hq1 := (hS1.cell a).trans hta; have hq2 := (hS1.cell e).trans hte; have hq3 := (hS2.cell 0).trans (show _ = some (.int .i64 (a : Int) : Value) from rfl); have hq4 := (hS2.cell 1).trans (show _ = some (.int .i64 (e : Int) : Value) from rfl); have hq5 := (hS2.cell 2).trans (show _ = some (.int .i64 M : Value) from rfl); go_simp; try with_reducible rfl
          try simp only [Act.put, List.setIfInBounds_toArray, List.set_cons_zero, List.set_cons_succ]
          refine wpAnyH_take (i := 18) (v := ?_) (by simp only [List.getElem?_toArray, List.getElem?_cons_succ, List.getElem?_cons_zero] <;> rfl) (by kernel_rfl) (by kernel_rfl) (by kernel_rfl) (by exact fun _ _ _ h => h) (Or.inl ⟨by kernel_rfl, ?_⟩) (by assumption) ?_
          rotate_left
          · intro w' hSw; (try dsimp only at hSw); obtain ⟨hS1, hS2, hS3⟩ := hSw; have hq1 := (hS1.cell a).trans hta; have hq2 := (hS1.cell e).trans hte; have hq3 := (hS2.cell 0).trans (show _ = some (.int .i64 (a : Int) : Value) from rfl); have hq4 := (hS2.cell 1).trans (show _ = some (.int .i64 (e : Int) : Value) from rfl); have hq5 := (hS2.cell 2).trans (show _ = some (.int .i64 M : Value) from rfl); go_simp; try with_reducible rfl
          try simp only [Act.put, List.setIfInBounds_toArray, List.set_cons_zero, List.set_cons_succ]
          refine wpAnyH_ready (rs := [19]) (by kernel_rfl) (by simp) (AllReadyH.cons rfl (fun K hK => ?_) AllReadyH.nil)
          go_simp
          skip
          refine hK.out _ _ (by first | exact ⟨hBt, hbox, inferInstance⟩ | exact ⟨hBt.far (p := ⟨G a, e, none⟩) (Ne.symm hn1) _, hbox.far (p := ⟨G a, e, none⟩) (by show ¬ _ = G a; omega) _, inferInstance⟩ | exact ⟨(hBt.far (p := ⟨G a, e, none⟩) (Ne.symm hn1) _).far (p := ⟨G e, a, none⟩) (Ne.symm hn2) _, (hbox.far (p := ⟨G a, e, none⟩) (by show ¬ _ = G a; omega) _).far (p := ⟨G e, a, none⟩) (by show ¬ _ = G e; omega) _, inferInstance⟩) (fun hHeld => ?_)
          try simp only [Act.put, List.setIfInBounds_toArray, List.set_cons_zero, List.set_cons_succ]
          refine wpAnyH_take (i := 20) (v := ?_) (by simp only [List.getElem?_toArray, List.getElem?_cons_succ, List.getElem?_cons_zero] <;> rfl) (by kernel_rfl) (by kernel_rfl) (by kernel_rfl) (by exact fun _ _ _ h => h) (Or.inl ⟨by kernel_rfl, ?_⟩) (by assumption) ?_
          rotate_left
          · intro w' hSw; (try dsimp only at hSw); obtain ⟨hS1, hS2, hS3⟩ := hSw; have hq1 := (hS1.cell a).trans hta; have hq2 := (hS1.cell e).trans hte; have hq3 := (hS2.cell 0).trans (show _ = some (.int .i64 (a : Int) : Value) from rfl); have hq4 := (hS2.cell 1).trans (show _ = some (.int .i64 (e : Int) : Value) from rfl); have hq5 := (hS2.cell 2).trans (show _ = some (.int .i64 M : Value) from rfl); go_simp; try with_reducible rfl
          try simp only [Act.put, List.setIfInBounds_toArray, List.set_cons_zero, List.set_cons_succ]
          refine wpAnyH_ready (rs := [21]) (by kernel_rfl) (by simp) (AllReadyH.cons rfl (fun K hK => ?_) AllReadyH.nil)
          go_simp
          skip
          refine hK.out _ _ (by first | exact ⟨hBt, hbox, inferInstance⟩ | exact ⟨hBt.far (p := ⟨G a, e, none⟩) (Ne.symm hn1) _, hbox.far (p := ⟨G a, e, none⟩) (by show ¬ _ = G a; omega) _, inferInstance⟩ | exact ⟨(hBt.far (p := ⟨G a, e, none⟩) (Ne.symm hn1) _).far (p := ⟨G e, a, none⟩) (Ne.symm hn2) _, (hbox.far (p := ⟨G a, e, none⟩) (by show ¬ _ = G a; omega) _).far (p := ⟨G e, a, none⟩) (by show ¬ _ = G e; omega) _, inferInstance⟩) (fun hHeld => ?_)
          try simp only [Act.put, List.setIfInBounds_toArray, List.set_cons_zero, List.set_cons_succ]
          refine wpAnyH_done (by kernel_rfl) ?_ _
          go_wp2
          go_roundw
          case rel => exact ⟨q + 1, by omega, by go_num, HT2, inferInstance⟩
          case measure => simp [intOf]; omega
        · have hqi : ¬ (q : Int) < n := by omega
          have HT0 : Hid (TabAt wr (w.heap.size + 1) G i i (fun a => (tblM i l 0).getD a [])) := by
            have h9 := HT.out
            unfold tblW at h9
            rw [List.take_of_length_le (by have := HL.out; omega)] at h9
            exact h9
          clear HT
          go_wp2_with fail
          go_loopw [77] (fun iv wr => ∃ m : Nat, m ≤ i ∧ iv = .int .i64 m ∧ Hid (TabAt wr (w.heap.size + 1) G i i (fun a => (tblM i l m).getD a [])) ∧ Later wb wr) (fun iv _ => i - (intOf iv).toNat)
          case atStart => exact ⟨0, by omega, rfl, HT0, inferInstance⟩
          case round =>
            obtain ⟨m, hm, rfl, HT, hX⟩ := hrel
            by_cases hmi : m < i
            · have hmI : (m : Int) < i := by omega
              go_wp2_with fail
              go_loopw [81] (fun iv wr => ∃ u : Nat, u ≤ i ∧ iv = .int .i64 u ∧ Hid (TabAt wr (w.heap.size + 1) G i i (fun a => (tblI i l m u).getD a [])) ∧ Later wb wr) (fun iv _ => i - (intOf iv).toNat)
              case atStart => exact ⟨0, by omega, rfl, HT, inferInstance⟩
              case round =>
                obtain ⟨u, hu, rfl, HT, hX⟩ := hrel
                by_cases hui : u < i
                · have huI : (u : Int) < i := by omega
                  go_wp2_with fail
                  go_loopw [85] (fun iv wr => ∃ j : Nat, j ≤ i ∧ iv = .int .i64 j ∧ Hid (TabAt wr (w.heap.size + 1) G i i (fun a => (tblJ i l m u j).getD a [])) ∧ Later wb wr) (fun iv _ => i - (intOf iv).toNat)
                  case atStart => exact ⟨0, by omega, rfl, HT, inferInstance⟩
                  case round =>
                    obtain ⟨j, hj, rfl, HT, hX⟩ := hrel
                    by_cases hji : j < i
                    · have hjI : (j : Int) < i := by omega
                      have HSH := Lib.hid (tblJ_mid HF.out h8 (l := l) hmi hui (by omega : j ≤ i)).sh
                      obtain ⟨p, hp⟩ : ∃ p, tg (tblJ i l m u j) u m = p := ⟨_, rfl⟩
                      obtain ⟨q', hq'⟩ : ∃ p, tg (tblJ i l m u j) m j = p := ⟨_, rfl⟩
                      obtain ⟨z, hz⟩ : ∃ p, tg (tblJ i l m u j) u j = p := ⟨_, rfl⟩
                      have bp := tblJ_bd HF.out h8 (l := l) hmi hui (by omega : j ≤ i) hui hmi
                      have bq := tblJ_bd HF.out h8 (l := l) hmi hui (by omega : j ≤ i) hmi hji
                      have bz := tblJ_bd HF.out h8 (l := l) hmi hui (by omega : j ≤ i) hui hji
                      rw [hp] at bp
                      rw [hq'] at bq
                      rw [hz] at bz
                      have htu := HT.out.cellTop hui
                      have htm := HT.out.cellTop hmi
                      have hcp := HT.out.cell hui (tg_at HSH.out hui hmi)
                      have hcq := HT.out.cell hmi (tg_at HSH.out hmi hji)
                      have hcz := HT.out.cell hui (tg_at HSH.out hui hji)
                      have hfz := HT.out.frozen (i := u) (j := j) hui
                      rw [hp] at hcp
                      rw [hq'] at hcq
                      rw [hz] at hcz
                      haveI hNu : New wb (G u) := ⟨HG.out u hui⟩
                      have HR : Hid (tblJ i l m u (j + 1) = if p < 0 ∨ q' < 0 then tblJ i l m u j else if z < 0 ∨ p + q' < z then tset (tblJ i l m u j) u j (p + q') else tblJ i l m u j) := by
                        show _ = _
                        rw [tblJ_step]; unfold rlx; rw [hp, hq', hz]
                      have hwp : IntKind.i64.wrap (p + q') = p + q' := by rw [IntKind.wrap_i64]; omega
                      clear hp hq' hz bp bq bz
                      by_cases c1 : p < 0
                      · have HT2 : Hid (TabAt wr (w.heap.size + 1) G i i (fun a => (tblJ i l m u (j + 1)).getD a [])) := by rw [HR.out, if_pos (.inl c1)]; exact HT
                        clear HT
                        go_wp2
                        go_roundw
                        case rel => exact ⟨j + 1, by omega, by go_num, HT2, inferInstance⟩
                        case measure => simp [intOf]; omega
                      by_cases c2 : q' < 0
                      · have HT2 : Hid (TabAt wr (w.heap.size + 1) G i i (fun a => (tblJ i l m u (j + 1)).getD a [])) := by rw [HR.out, if_pos (.inr c2)]; exact HT
                        clear HT
                        go_wp2
                        go_roundw
                        case rel => exact ⟨j + 1, by omega, by go_num, HT2, inferInstance⟩
                        case measure => simp [intOf]; omega
                      have HR2 : Hid (tblJ i l m u (j + 1) = if z < 0 ∨ p + q' < z then tset (tblJ i l m u j) u j (p + q') else tblJ i l m u j) := by
                        show _ = _
                        rw [HR.out, if_neg (fun e => e.elim c1 c2)]
                      have HT9 := Lib.hid ((HT.out.later (inferInstance : Later wr wr.drew)).tset_ HSH.out hui j (p + q'))
                      clear HR
                      by_cases c3 : z < 0
                      · have HT2 : Hid (TabAt (wr.drew.setCell ⟨G u, j, none⟩ (.int .i64 (p + q'))) (w.heap.size + 1) G i i (fun a => (tblJ i l m u (j + 1)).getD a [])) := by rw [HR2.out, if_pos (.inl c3)]; exact HT9
                        clear HT HT9
                        go_wp2_with fail
                        refine wp_region_held_drew (S := (fun w' => Later wb w' ∧ Later wr w')) (by kernel_rfl) (by exact ⟨inferInstance, inferInstance⟩) (fun hHeld => ?_)
                        refine wpAnyH_take (i := 0) (v := ?_) (by simp only [List.getElem?_toArray, List.getElem?_cons_zero] <;> rfl) (by kernel_rfl) (by kernel_rfl) (by kernel_rfl) (by exact fun _ _ _ h => h) (Or.inl ⟨by kernel_rfl, ?_⟩) (by assumption) ?_
                        rotate_left
                        · intro w' hSw; (try dsimp only at hSw); go_simp; try with_reducible rfl
                        try simp only [Act.put, List.setIfInBounds_toArray, List.set_cons_zero, List.set_cons_succ]
                        refine wpAnyH_take (i := 1) (v := ?_) (by simp only [List.getElem?_toArray, List.getElem?_cons_succ, List.getElem?_cons_zero] <;> rfl) (by kernel_rfl) (by kernel_rfl) (by kernel_rfl) (by exact fun _ _ _ h => h) (Or.inl ⟨by kernel_rfl, ?_⟩) (by assumption) ?_
                        rotate_left
                        · intro w' hSw; (try dsimp only at hSw); go_simp; try with_reducible rfl
                        try simp only [Act.put, List.setIfInBounds_toArray, List.set_cons_zero, List.set_cons_succ]
                        refine wpAnyH_take (i := 2) (v := ?_) (by simp only [List.getElem?_toArray, List.getElem?_cons_succ, List.getElem?_cons_zero] <;> rfl) (by kernel_rfl) (by kernel_rfl) (by kernel_rfl) (by exact fun _ _ _ h => h) (Or.inl ⟨by kernel_rfl, ?_⟩) (by assumption) ?_
                        rotate_left
                        · intro w' hSw; (try dsimp only at hSw); go_simp; try with_reducible rfl
                        try simp only [Act.put, List.setIfInBounds_toArray, List.set_cons_zero, List.set_cons_succ]
                        refine wpAnyH_take (i := 3) (v := ?_) (by simp only [List.getElem?_toArray, List.getElem?_cons_succ, List.getElem?_cons_zero] <;> rfl) (by kernel_rfl) (by kernel_rfl) (by kernel_rfl) (by exact fun _ _ _ h => h) (Or.inl ⟨by kernel_rfl, ?_⟩) (by assumption) ?_
                        rotate_left
                        · intro w' hSw; (try dsimp only at hSw); go_simp; try with_reducible rfl
                        try simp only [Act.put, List.setIfInBounds_toArray, List.set_cons_zero, List.set_cons_succ]
                        refine wpAnyH_take (i := 4) (v := ?_) (by simp only [List.getElem?_toArray, List.getElem?_cons_succ, List.getElem?_cons_zero] <;> rfl) (by kernel_rfl) (by kernel_rfl) (by kernel_rfl) (by exact fun _ _ _ h => h) (Or.inl ⟨by kernel_rfl, ?_⟩) (by assumption) ?_
                        rotate_left
                        · intro w' hSw; (try dsimp only at hSw); go_simp; try with_reducible rfl
                        try simp only [Act.put, List.setIfInBounds_toArray, List.set_cons_zero, List.set_cons_succ]
                        refine wpAnyH_take (i := 5) (v := ?_) (by simp only [List.getElem?_toArray, List.getElem?_cons_succ, List.getElem?_cons_zero] <;> rfl) (by kernel_rfl) (by kernel_rfl) (by kernel_rfl) (by exact fun _ _ _ h => h) (Or.inl ⟨by kernel_rfl, ?_⟩) (by assumption) ?_
                        rotate_left
                        · intro w' hSw; (try dsimp only at hSw); go_simp; try with_reducible rfl
                        try simp only [Act.put, List.setIfInBounds_toArray, List.set_cons_zero, List.set_cons_succ]
                        refine wpAnyH_take (i := 6) (v := ?_) (by simp only [List.getElem?_toArray, List.getElem?_cons_succ, List.getElem?_cons_zero] <;> rfl) (by kernel_rfl) (by kernel_rfl) (by kernel_rfl) (by exact fun _ _ _ h => h) (Or.inl ⟨by kernel_rfl, ?_⟩) (by assumption) ?_
                        rotate_left
                        · intro w' hSw; (try dsimp only at hSw); go_simp; try with_reducible rfl
                        try simp only [Act.put, List.setIfInBounds_toArray, List.set_cons_zero, List.set_cons_succ]
                        refine wpAnyH_take (i := 7) (v := ?_) (by simp only [List.getElem?_toArray, List.getElem?_cons_succ, List.getElem?_cons_zero] <;> rfl) (by kernel_rfl) (by kernel_rfl) (by kernel_rfl) (by exact fun _ _ _ h => h) (Or.inl ⟨by kernel_rfl, ?_⟩) (by assumption) ?_
                        rotate_left
                        · intro w' hSw; (try dsimp only at hSw); go_simp; try with_reducible rfl
                        try simp only [Act.put, List.setIfInBounds_toArray, List.set_cons_zero, List.set_cons_succ]
                        refine wpAnyH_take (i := 8) (v := ?_) (by simp only [List.getElem?_toArray, List.getElem?_cons_succ, List.getElem?_cons_zero] <;> rfl) (by kernel_rfl) (by kernel_rfl) (by kernel_rfl) (by exact fun _ _ _ h => h) (Or.inl ⟨by kernel_rfl, ?_⟩) (by assumption) ?_
                        rotate_left
                        · intro w' hSw; (try dsimp only at hSw); go_simp; try with_reducible rfl
                        try simp only [Act.put, List.setIfInBounds_toArray, List.set_cons_zero, List.set_cons_succ]
                        refine wpAnyH_take (i := 9) (v := ?_) (by simp only [List.getElem?_toArray, List.getElem?_cons_succ, List.getElem?_cons_zero] <;> rfl) (by kernel_rfl) (by kernel_rfl) (by kernel_rfl) (by exact fun _ _ _ h => h) (Or.inl ⟨by kernel_rfl, ?_⟩) (by assumption) ?_
                        rotate_left
                        · intro w' hSw; (try dsimp only at hSw); go_simp; try with_reducible rfl
                        try simp only [Act.put, List.setIfInBounds_toArray, List.set_cons_zero, List.set_cons_succ]
                        refine wpAnyH_take (i := 10) (v := ?_) (by simp only [List.getElem?_toArray, List.getElem?_cons_succ, List.getElem?_cons_zero] <;> rfl) (by kernel_rfl) (by kernel_rfl) (by kernel_rfl) (by exact fun _ _ _ h => h) (Or.inl ⟨by kernel_rfl, ?_⟩) (by assumption) ?_
                        rotate_left
                        · intro w' hSw; (try dsimp only at hSw); go_simp; try with_reducible rfl
                        try simp only [Act.put, List.setIfInBounds_toArray, List.set_cons_zero, List.set_cons_succ]
                        refine wpAnyH_take (i := 11) (v := ?_) (by simp only [List.getElem?_toArray, List.getElem?_cons_succ, List.getElem?_cons_zero] <;> rfl) (by kernel_rfl) (by kernel_rfl) (by kernel_rfl) (by exact fun _ _ _ h => h) (Or.inl ⟨by kernel_rfl, ?_⟩) (by assumption) ?_
                        rotate_left
                        · intro w' hSw; (try dsimp only at hSw); go_simp; try with_reducible rfl
                        try simp only [Act.put, List.setIfInBounds_toArray, List.set_cons_zero, List.set_cons_succ]
                        refine wpAnyH_take (i := 12) (v := ?_) (by simp only [List.getElem?_toArray, List.getElem?_cons_succ, List.getElem?_cons_zero] <;> rfl) (by kernel_rfl) (by kernel_rfl) (by kernel_rfl) (by exact fun _ _ _ h => h) (Or.inl ⟨by kernel_rfl, ?_⟩) (by assumption) ?_
                        rotate_left
                        · intro w' hSw; (try dsimp only at hSw); go_simp; try with_reducible rfl
                        try simp only [Act.put, List.setIfInBounds_toArray, List.set_cons_zero, List.set_cons_succ]
                        refine wpAnyH_take (i := 13) (v := ?_) (by simp only [List.getElem?_toArray, List.getElem?_cons_succ, List.getElem?_cons_zero] <;> rfl) (by kernel_rfl) (by kernel_rfl) (by kernel_rfl) (by exact fun _ _ _ h => h) (Or.inl ⟨by kernel_rfl, ?_⟩) (by assumption) ?_
                        rotate_left
                        · intro w' hSw; (try dsimp only at hSw); go_simp; try with_reducible rfl
                        try simp only [Act.put, List.setIfInBounds_toArray, List.set_cons_zero, List.set_cons_succ]
                        refine wpAnyH_take (i := 14) (v := ?_) (by simp only [List.getElem?_toArray, List.getElem?_cons_succ, List.getElem?_cons_zero] <;> rfl) (by kernel_rfl) (by kernel_rfl) (by kernel_rfl) (by exact fun _ _ _ h => h) (Or.inl ⟨by kernel_rfl, ?_⟩) (by assumption) ?_
                        rotate_left
                        · intro w' hSw; (try dsimp only at hSw); go_simp; try with_reducible rfl
                        try simp only [Act.put, List.setIfInBounds_toArray, List.set_cons_zero, List.set_cons_succ]
                        refine wpAnyH_take (i := 15) (v := ?_) (by simp only [List.getElem?_toArray, List.getElem?_cons_succ, List.getElem?_cons_zero] <;> rfl) (by kernel_rfl) (by kernel_rfl) (by kernel_rfl) (by exact fun _ _ _ h => h) (Or.inl ⟨by kernel_rfl, ?_⟩) (by assumption) ?_
                        rotate_left
                        · intro w' hSw; (try dsimp only at hSw); go_simp; try with_reducible rfl
                        try simp only [Act.put, List.setIfInBounds_toArray, List.set_cons_zero, List.set_cons_succ]
                        refine wpAnyH_done (by kernel_rfl) ?_ _
                        go_wp2
                        go_roundw
                        case rel => exact ⟨j + 1, by omega, by go_num, HT2, inferInstance⟩
                        case measure => simp [intOf]; omega
                      by_cases c4 : p + q' < z
                      · have HT2 : Hid (TabAt (wr.drew.setCell ⟨G u, j, none⟩ (.int .i64 (p + q'))) (w.heap.size + 1) G i i (fun a => (tblJ i l m u (j + 1)).getD a [])) := by rw [HR2.out, if_pos (.inr c4)]; exact HT9
                        clear HT HT9
                        go_wp2_with fail
                        refine wp_region_held_drew (S := (fun w' => Later wb w' ∧ Later wr w')) (by kernel_rfl) (by exact ⟨inferInstance, inferInstance⟩) (fun hHeld => ?_)
                        refine wpAnyH_take (i := 0) (v := ?_) (by simp only [List.getElem?_toArray, List.getElem?_cons_zero] <;> rfl) (by kernel_rfl) (by kernel_rfl) (by kernel_rfl) (by exact fun _ _ _ h => h) (Or.inl ⟨by kernel_rfl, ?_⟩) (by assumption) ?_
                        rotate_left
                        · intro w' hSw; (try dsimp only at hSw); go_simp; try with_reducible rfl
                        try simp only [Act.put, List.setIfInBounds_toArray, List.set_cons_zero, List.set_cons_succ]
                        refine wpAnyH_take (i := 1) (v := ?_) (by simp only [List.getElem?_toArray, List.getElem?_cons_succ, List.getElem?_cons_zero] <;> rfl) (by kernel_rfl) (by kernel_rfl) (by kernel_rfl) (by exact fun _ _ _ h => h) (Or.inl ⟨by kernel_rfl, ?_⟩) (by assumption) ?_
                        rotate_left
                        · intro w' hSw; (try dsimp only at hSw); go_simp; try with_reducible rfl
                        try simp only [Act.put, List.setIfInBounds_toArray, List.set_cons_zero, List.set_cons_succ]
                        refine wpAnyH_take (i := 2) (v := ?_) (by simp only [List.getElem?_toArray, List.getElem?_cons_succ, List.getElem?_cons_zero] <;> rfl) (by kernel_rfl) (by kernel_rfl) (by kernel_rfl) (by exact fun _ _ _ h => h) (Or.inl ⟨by kernel_rfl, ?_⟩) (by assumption) ?_
                        rotate_left
                        · intro w' hSw; (try dsimp only at hSw); go_simp; try with_reducible rfl
                        try simp only [Act.put, List.setIfInBounds_toArray, List.set_cons_zero, List.set_cons_succ]
                        refine wpAnyH_take (i := 3) (v := ?_) (by simp only [List.getElem?_toArray, List.getElem?_cons_succ, List.getElem?_cons_zero] <;> rfl) (by kernel_rfl) (by kernel_rfl) (by kernel_rfl) (by exact fun _ _ _ h => h) (Or.inl ⟨by kernel_rfl, ?_⟩) (by assumption) ?_
                        rotate_left
                        · intro w' hSw; (try dsimp only at hSw); go_simp; try with_reducible rfl
                        try simp only [Act.put, List.setIfInBounds_toArray, List.set_cons_zero, List.set_cons_succ]
                        refine wpAnyH_take (i := 4) (v := ?_) (by simp only [List.getElem?_toArray, List.getElem?_cons_succ, List.getElem?_cons_zero] <;> rfl) (by kernel_rfl) (by kernel_rfl) (by kernel_rfl) (by exact fun _ _ _ h => h) (Or.inl ⟨by kernel_rfl, ?_⟩) (by assumption) ?_
                        rotate_left
                        · intro w' hSw; (try dsimp only at hSw); go_simp; try with_reducible rfl
                        try simp only [Act.put, List.setIfInBounds_toArray, List.set_cons_zero, List.set_cons_succ]
                        refine wpAnyH_take (i := 5) (v := ?_) (by simp only [List.getElem?_toArray, List.getElem?_cons_succ, List.getElem?_cons_zero] <;> rfl) (by kernel_rfl) (by kernel_rfl) (by kernel_rfl) (by exact fun _ _ _ h => h) (Or.inl ⟨by kernel_rfl, ?_⟩) (by assumption) ?_
                        rotate_left
                        · intro w' hSw; (try dsimp only at hSw); go_simp; try with_reducible rfl
                        try simp only [Act.put, List.setIfInBounds_toArray, List.set_cons_zero, List.set_cons_succ]
                        refine wpAnyH_take (i := 6) (v := ?_) (by simp only [List.getElem?_toArray, List.getElem?_cons_succ, List.getElem?_cons_zero] <;> rfl) (by kernel_rfl) (by kernel_rfl) (by kernel_rfl) (by exact fun _ _ _ h => h) (Or.inl ⟨by kernel_rfl, ?_⟩) (by assumption) ?_
                        rotate_left
                        · intro w' hSw; (try dsimp only at hSw); go_simp; try with_reducible rfl
                        try simp only [Act.put, List.setIfInBounds_toArray, List.set_cons_zero, List.set_cons_succ]
                        refine wpAnyH_take (i := 7) (v := ?_) (by simp only [List.getElem?_toArray, List.getElem?_cons_succ, List.getElem?_cons_zero] <;> rfl) (by kernel_rfl) (by kernel_rfl) (by kernel_rfl) (by exact fun _ _ _ h => h) (Or.inl ⟨by kernel_rfl, ?_⟩) (by assumption) ?_
                        rotate_left
                        · intro w' hSw; (try dsimp only at hSw); go_simp; try with_reducible rfl
                        try simp only [Act.put, List.setIfInBounds_toArray, List.set_cons_zero, List.set_cons_succ]
                        refine wpAnyH_take (i := 8) (v := ?_) (by simp only [List.getElem?_toArray, List.getElem?_cons_succ, List.getElem?_cons_zero] <;> rfl) (by kernel_rfl) (by kernel_rfl) (by kernel_rfl) (by exact fun _ _ _ h => h) (Or.inl ⟨by kernel_rfl, ?_⟩) (by assumption) ?_
                        rotate_left
                        · intro w' hSw; (try dsimp only at hSw); go_simp; try with_reducible rfl
                        try simp only [Act.put, List.setIfInBounds_toArray, List.set_cons_zero, List.set_cons_succ]
                        refine wpAnyH_take (i := 9) (v := ?_) (by simp only [List.getElem?_toArray, List.getElem?_cons_succ, List.getElem?_cons_zero] <;> rfl) (by kernel_rfl) (by kernel_rfl) (by kernel_rfl) (by exact fun _ _ _ h => h) (Or.inl ⟨by kernel_rfl, ?_⟩) (by assumption) ?_
                        rotate_left
                        · intro w' hSw; (try dsimp only at hSw); go_simp; try with_reducible rfl
                        try simp only [Act.put, List.setIfInBounds_toArray, List.set_cons_zero, List.set_cons_succ]
                        refine wpAnyH_take (i := 10) (v := ?_) (by simp only [List.getElem?_toArray, List.getElem?_cons_succ, List.getElem?_cons_zero] <;> rfl) (by kernel_rfl) (by kernel_rfl) (by kernel_rfl) (by exact fun _ _ _ h => h) (Or.inl ⟨by kernel_rfl, ?_⟩) (by assumption) ?_
                        rotate_left
                        · intro w' hSw; (try dsimp only at hSw); go_simp; try with_reducible rfl
                        try simp only [Act.put, List.setIfInBounds_toArray, List.set_cons_zero, List.set_cons_succ]
                        refine wpAnyH_take (i := 11) (v := ?_) (by simp only [List.getElem?_toArray, List.getElem?_cons_succ, List.getElem?_cons_zero] <;> rfl) (by kernel_rfl) (by kernel_rfl) (by kernel_rfl) (by exact fun _ _ _ h => h) (Or.inl ⟨by kernel_rfl, ?_⟩) (by assumption) ?_
                        rotate_left
                        · intro w' hSw; (try dsimp only at hSw); go_simp; try with_reducible rfl
                        try simp only [Act.put, List.setIfInBounds_toArray, List.set_cons_zero, List.set_cons_succ]
                        refine wpAnyH_take (i := 12) (v := ?_) (by simp only [List.getElem?_toArray, List.getElem?_cons_succ, List.getElem?_cons_zero] <;> rfl) (by kernel_rfl) (by kernel_rfl) (by kernel_rfl) (by exact fun _ _ _ h => h) (Or.inl ⟨by kernel_rfl, ?_⟩) (by assumption) ?_
                        rotate_left
                        · intro w' hSw; (try dsimp only at hSw); go_simp; try with_reducible rfl
                        try simp only [Act.put, List.setIfInBounds_toArray, List.set_cons_zero, List.set_cons_succ]
                        refine wpAnyH_take (i := 13) (v := ?_) (by simp only [List.getElem?_toArray, List.getElem?_cons_succ, List.getElem?_cons_zero] <;> rfl) (by kernel_rfl) (by kernel_rfl) (by kernel_rfl) (by exact fun _ _ _ h => h) (Or.inl ⟨by kernel_rfl, ?_⟩) (by assumption) ?_
                        rotate_left
                        · intro w' hSw; (try dsimp only at hSw); go_simp; try with_reducible rfl
                        try simp only [Act.put, List.setIfInBounds_toArray, List.set_cons_zero, List.set_cons_succ]
                        refine wpAnyH_take (i := 14) (v := ?_) (by simp only [List.getElem?_toArray, List.getElem?_cons_succ, List.getElem?_cons_zero] <;> rfl) (by kernel_rfl) (by kernel_rfl) (by kernel_rfl) (by exact fun _ _ _ h => h) (Or.inl ⟨by kernel_rfl, ?_⟩) (by assumption) ?_
                        rotate_left
                        · intro w' hSw; (try dsimp only at hSw); go_simp; try with_reducible rfl
                        try simp only [Act.put, List.setIfInBounds_toArray, List.set_cons_zero, List.set_cons_succ]
                        refine wpAnyH_take (i := 15) (v := ?_) (by simp only [List.getElem?_toArray, List.getElem?_cons_succ, List.getElem?_cons_zero] <;> rfl) (by kernel_rfl) (by kernel_rfl) (by kernel_rfl) (by exact fun _ _ _ h => h) (Or.inl ⟨by kernel_rfl, ?_⟩) (by assumption) ?_
                        rotate_left
                        · intro w' hSw; (try dsimp only at hSw); go_simp; try with_reducible rfl
                        try simp only [Act.put, List.setIfInBounds_toArray, List.set_cons_zero, List.set_cons_succ]
                        refine wpAnyH_done (by kernel_rfl) ?_ _
                        go_wp2
                        go_roundw
                        case rel => exact ⟨j + 1, by omega, by go_num, HT2, inferInstance⟩
                        case measure => simp [intOf]; omega
                      · have HT2 : Hid (TabAt wr.drew (w.heap.size + 1) G i i (fun a => (tblJ i l m u (j + 1)).getD a [])) := by rw [HR2.out, if_neg (fun e => e.elim c3 c4)]; exact Lib.hid (HT.out.later (inferInstance : Later wr wr.drew))
                        clear HT HT9
                        go_wp2_with fail
                        refine wp_region_held_drew (S := (fun w' => Later wb w' ∧ Later wr w')) (by kernel_rfl) (by exact ⟨inferInstance, inferInstance⟩) (fun hHeld => ?_)
                        refine wpAnyH_take (i := 0) (v := ?_) (by simp only [List.getElem?_toArray, List.getElem?_cons_zero] <;> rfl) (by kernel_rfl) (by kernel_rfl) (by kernel_rfl) (by exact fun _ _ _ h => h) (Or.inl ⟨by kernel_rfl, ?_⟩) (by assumption) ?_
                        rotate_left
                        · intro w' hSw; (try dsimp only at hSw); go_simp; try with_reducible rfl
                        try simp only [Act.put, List.setIfInBounds_toArray, List.set_cons_zero, List.set_cons_succ]
                        refine wpAnyH_take (i := 1) (v := ?_) (by simp only [List.getElem?_toArray, List.getElem?_cons_succ, List.getElem?_cons_zero] <;> rfl) (by kernel_rfl) (by kernel_rfl) (by kernel_rfl) (by exact fun _ _ _ h => h) (Or.inl ⟨by kernel_rfl, ?_⟩) (by assumption) ?_
                        rotate_left
                        · intro w' hSw; (try dsimp only at hSw); go_simp; try with_reducible rfl
                        try simp only [Act.put, List.setIfInBounds_toArray, List.set_cons_zero, List.set_cons_succ]
                        refine wpAnyH_take (i := 2) (v := ?_) (by simp only [List.getElem?_toArray, List.getElem?_cons_succ, List.getElem?_cons_zero] <;> rfl) (by kernel_rfl) (by kernel_rfl) (by kernel_rfl) (by exact fun _ _ _ h => h) (Or.inl ⟨by kernel_rfl, ?_⟩) (by assumption) ?_
                        rotate_left
                        · intro w' hSw; (try dsimp only at hSw); go_simp; try with_reducible rfl
                        try simp only [Act.put, List.setIfInBounds_toArray, List.set_cons_zero, List.set_cons_succ]
                        refine wpAnyH_take (i := 3) (v := ?_) (by simp only [List.getElem?_toArray, List.getElem?_cons_succ, List.getElem?_cons_zero] <;> rfl) (by kernel_rfl) (by kernel_rfl) (by kernel_rfl) (by exact fun _ _ _ h => h) (Or.inl ⟨by kernel_rfl, ?_⟩) (by assumption) ?_
                        rotate_left
                        · intro w' hSw; (try dsimp only at hSw); go_simp; try with_reducible rfl
                        try simp only [Act.put, List.setIfInBounds_toArray, List.set_cons_zero, List.set_cons_succ]
                        refine wpAnyH_take (i := 4) (v := ?_) (by simp only [List.getElem?_toArray, List.getElem?_cons_succ, List.getElem?_cons_zero] <;> rfl) (by kernel_rfl) (by kernel_rfl) (by kernel_rfl) (by exact fun _ _ _ h => h) (Or.inl ⟨by kernel_rfl, ?_⟩) (by assumption) ?_
                        rotate_left
                        · intro w' hSw; (try dsimp only at hSw); go_simp; try with_reducible rfl
                        try simp only [Act.put, List.setIfInBounds_toArray, List.set_cons_zero, List.set_cons_succ]
                        refine wpAnyH_take (i := 5) (v := ?_) (by simp only [List.getElem?_toArray, List.getElem?_cons_succ, List.getElem?_cons_zero] <;> rfl) (by kernel_rfl) (by kernel_rfl) (by kernel_rfl) (by exact fun _ _ _ h => h) (Or.inl ⟨by kernel_rfl, ?_⟩) (by assumption) ?_
                        rotate_left
                        · intro w' hSw; (try dsimp only at hSw); go_simp; try with_reducible rfl
                        try simp only [Act.put, List.setIfInBounds_toArray, List.set_cons_zero, List.set_cons_succ]
                        refine wpAnyH_take (i := 6) (v := ?_) (by simp only [List.getElem?_toArray, List.getElem?_cons_succ, List.getElem?_cons_zero] <;> rfl) (by kernel_rfl) (by kernel_rfl) (by kernel_rfl) (by exact fun _ _ _ h => h) (Or.inl ⟨by kernel_rfl, ?_⟩) (by assumption) ?_
                        rotate_left
                        · intro w' hSw; (try dsimp only at hSw); go_simp; try with_reducible rfl
                        try simp only [Act.put, List.setIfInBounds_toArray, List.set_cons_zero, List.set_cons_succ]
                        refine wpAnyH_take (i := 7) (v := ?_) (by simp only [List.getElem?_toArray, List.getElem?_cons_succ, List.getElem?_cons_zero] <;> rfl) (by kernel_rfl) (by kernel_rfl) (by kernel_rfl) (by exact fun _ _ _ h => h) (Or.inl ⟨by kernel_rfl, ?_⟩) (by assumption) ?_
                        rotate_left
                        · intro w' hSw; (try dsimp only at hSw); go_simp; try with_reducible rfl
                        try simp only [Act.put, List.setIfInBounds_toArray, List.set_cons_zero, List.set_cons_succ]
                        refine wpAnyH_take (i := 8) (v := ?_) (by simp only [List.getElem?_toArray, List.getElem?_cons_succ, List.getElem?_cons_zero] <;> rfl) (by kernel_rfl) (by kernel_rfl) (by kernel_rfl) (by exact fun _ _ _ h => h) (Or.inl ⟨by kernel_rfl, ?_⟩) (by assumption) ?_
                        rotate_left
                        · intro w' hSw; (try dsimp only at hSw); go_simp; try with_reducible rfl
                        try simp only [Act.put, List.setIfInBounds_toArray, List.set_cons_zero, List.set_cons_succ]
                        refine wpAnyH_take (i := 9) (v := ?_) (by simp only [List.getElem?_toArray, List.getElem?_cons_succ, List.getElem?_cons_zero] <;> rfl) (by kernel_rfl) (by kernel_rfl) (by kernel_rfl) (by exact fun _ _ _ h => h) (Or.inl ⟨by kernel_rfl, ?_⟩) (by assumption) ?_
                        rotate_left
                        · intro w' hSw; (try dsimp only at hSw); go_simp; try with_reducible rfl
                        try simp only [Act.put, List.setIfInBounds_toArray, List.set_cons_zero, List.set_cons_succ]
                        refine wpAnyH_take (i := 10) (v := ?_) (by simp only [List.getElem?_toArray, List.getElem?_cons_succ, List.getElem?_cons_zero] <;> rfl) (by kernel_rfl) (by kernel_rfl) (by kernel_rfl) (by exact fun _ _ _ h => h) (Or.inl ⟨by kernel_rfl, ?_⟩) (by assumption) ?_
                        rotate_left
                        · intro w' hSw; (try dsimp only at hSw); go_simp; try with_reducible rfl
                        try simp only [Act.put, List.setIfInBounds_toArray, List.set_cons_zero, List.set_cons_succ]
                        refine wpAnyH_take (i := 11) (v := ?_) (by simp only [List.getElem?_toArray, List.getElem?_cons_succ, List.getElem?_cons_zero] <;> rfl) (by kernel_rfl) (by kernel_rfl) (by kernel_rfl) (by exact fun _ _ _ h => h) (Or.inl ⟨by kernel_rfl, ?_⟩) (by assumption) ?_
                        rotate_left
                        · intro w' hSw; (try dsimp only at hSw); go_simp; try with_reducible rfl
                        try simp only [Act.put, List.setIfInBounds_toArray, List.set_cons_zero, List.set_cons_succ]
                        refine wpAnyH_take (i := 12) (v := ?_) (by simp only [List.getElem?_toArray, List.getElem?_cons_succ, List.getElem?_cons_zero] <;> rfl) (by kernel_rfl) (by kernel_rfl) (by kernel_rfl) (by exact fun _ _ _ h => h) (Or.inl ⟨by kernel_rfl, ?_⟩) (by assumption) ?_
                        rotate_left
                        · intro w' hSw; (try dsimp only at hSw); go_simp; try with_reducible rfl
                        try simp only [Act.put, List.setIfInBounds_toArray, List.set_cons_zero, List.set_cons_succ]
                        refine wpAnyH_take (i := 13) (v := ?_) (by simp only [List.getElem?_toArray, List.getElem?_cons_succ, List.getElem?_cons_zero] <;> rfl) (by kernel_rfl) (by kernel_rfl) (by kernel_rfl) (by exact fun _ _ _ h => h) (Or.inl ⟨by kernel_rfl, ?_⟩) (by assumption) ?_
                        rotate_left
                        · intro w' hSw; (try dsimp only at hSw); go_simp; try with_reducible rfl
                        try simp only [Act.put, List.setIfInBounds_toArray, List.set_cons_zero, List.set_cons_succ]
                        refine wpAnyH_take (i := 14) (v := ?_) (by simp only [List.getElem?_toArray, List.getElem?_cons_succ, List.getElem?_cons_zero] <;> rfl) (by kernel_rfl) (by kernel_rfl) (by kernel_rfl) (by exact fun _ _ _ h => h) (Or.inl ⟨by kernel_rfl, ?_⟩) (by assumption) ?_
                        rotate_left
                        · intro w' hSw; (try dsimp only at hSw); go_simp; try with_reducible rfl
                        try simp only [Act.put, List.setIfInBounds_toArray, List.set_cons_zero, List.set_cons_succ]
                        refine wpAnyH_take (i := 15) (v := ?_) (by simp only [List.getElem?_toArray, List.getElem?_cons_succ, List.getElem?_cons_zero] <;> rfl) (by kernel_rfl) (by kernel_rfl) (by kernel_rfl) (by exact fun _ _ _ h => h) (Or.inl ⟨by kernel_rfl, ?_⟩) (by assumption) ?_
                        rotate_left
                        · intro w' hSw; (try dsimp only at hSw); go_simp; try with_reducible rfl
                        try simp only [Act.put, List.setIfInBounds_toArray, List.set_cons_zero, List.set_cons_succ]
                        refine wpAnyH_done (by kernel_rfl) ?_ _
                        go_wp2
                        go_roundw
                        case rel => exact ⟨j + 1, by omega, by go_num, HT2, inferInstance⟩
                        case measure => simp [intOf]; omega
                    · obtain rfl : j = i := by omega
                      have hjI : ¬ (j : Int) < j := by omega
                      have HT2 : Hid (TabAt wr (w.heap.size + 1) G j j (fun a => (tblI j l m (u + 1)).getD a [])) := by rw [← tblI_step]; exact HT
                      clear HT
                      go_wp2
                      go_roundw
                      case rel => exact ⟨u + 1, by omega, by go_num, HT2, inferInstance⟩
                      case measure => simp [intOf]; omega
                · obtain rfl : u = i := by omega
                  have huI : ¬ (u : Int) < u := by omega
                  have HT2 : Hid (TabAt wr (w.heap.size + 1) G u u (fun a => (tblM u l (m + 1)).getD a [])) := by rw [← tblM_step]; exact HT
                  clear HT
                  go_wp2
                  go_roundw
                  case rel => exact ⟨m + 1, by omega, by go_num, HT2, inferInstance⟩
                  case measure => simp [intOf]; omega
            · obtain rfl : m = i := by omega
              have hmI : ¬ (m : Int) < m := by omega
              go_wp2
              go_ret
              have ht := tblM_tab HF.out h8 m (Nat.le_refl _)
              exact ⟨_, _, _, rfl, HT.out.rows ht.sh h8 (fun a e ha he => by have := ht.lo a e ha he; have := ht.hi a e ha he; have := pow_le (M := m) h8; unfold I64; omega), hww.trans inferInstance⟩
end Go.Proofs.Ytaopadffabbjiaa
