/-
  MakeBlocks: spec.l11Before.
-/
import Derived.Test.YtaopadffabbjiaaLnkS
import Derived.Test.YtaopadffabbjiaaORow
namespace Go.Proofs.Ytaopadffabbjiaa
open Go Go.RowKit
set_option linter.unusedVariables false
set_option maxRecDepth 100000
set_option linter.unusedSimpArgs false
theorem shl_m {n : Nat} (h : n ≤ 12) : IntKind.i64.wrap (2 ^ n) = ((2 ^ n : Nat) : Int) := by
  have h1 := pow4096 h
  have h2 : (2 : Int) ^ n = ((2 ^ n : Nat) : Int) := by simp
  rw [h2]
  generalize 2 ^ n = k at *
  rw [IntKind.wrap_i64]
  omega
theorem hit_dropU {n a : Nat} {p : Nat → Bool} (ha : a < n) : ((List.range n).drop a).find? p = if p a = true then some a else ((List.range n).drop (a + 1)).find? p := by
  rw [drop_at (x := a) (List.getElem?_range ha), List.find?_cons]
  cases p a <;> rfl
theorem hitS_at {t : Timetable} {f : Fleet} {r i u a : Nat} (hir : i + (r + 1) = t.Trips.length) : hitS t.Trips.length (folT t f) (ddT t f) r u a = (folT t f a i && !u.testBit a && decide (ddT t f a i + csT t f r (u ||| 2 ^ a) = csT t f (r + 1) u)) := by
  unfold hitS mayF csT
  rw [show t.Trips.length - (r + 1) = i by omega]
/-- The plan while its rows are laid. -/
structure PlanUp (t : Timetable) (wb : World) (px m : Nat) (pl : Value → Array Value) (kv : Value) (gs : List Nat) (W : World) : Prop where
  bx : Blk W px 142 (pl kv)
  own : W.ownsRow (px + 1) 67 1 kv gs.length (gs.map fun g => .slice (some ⟨g, 0, none⟩) m m)
  row : ∀ g, g ∈ gs → Blk W g 3 (rowA (List.replicate m (-1))) ∧ px < g
  nd : gs.Nodup
  lat : Later wb W
theorem PlanUp.step {t : Timetable} {wb W W' : World} {px m g' : Nat} {pl : Value → Array Value} {kv v' : Value} {gs : List Nat} (h : PlanUp t wb px m pl kv gs W) (hb : wb.heap.size ≤ px) (hg : Blk W g' 3 (rowA (List.replicate m (-1)))) (hgp : px < g') (hn : g' ∉ gs) (hk : ∀ k, kv.ownBlock = some k → k ≠ g')
    (hgr : W.grownBy W' kv.ownBlock) (ho : W'.ownsRow (px + 1) 67 1 v' (gs.length + 1) ((gs.map fun g => .slice (some ⟨g, 0, none⟩) m m) ++ [.slice (some ⟨g', 0, none⟩) m m])) (hpl : ∀ a b, (pl a).setIfInBounds 5 b = pl b) :
    PlanUp t wb px m pl v' (gs ++ [g']) (W'.setCell ⟨px, 5, none⟩ v') := by
  have hlo : ∀ k, kv.ownBlock = some k → px < k := fun k hk => (h.own.lt k hk).1
  have hty : ∀ g, Blk W g 3 (rowA (List.replicate m (-1))) → ∀ k, kv.ownBlock = some k → g ≠ k := by
    intro g hgb k hk e
    subst e
    rcases h.own.2 with ⟨e1, _⟩ | ⟨g9, cap, cur, e1, _, h9, _⟩
    · rw [e1] at hk; cases hk
    · rw [e1] at hk
      cases hk
      have h8 := hgb.symm.trans h9
      simp at h8
  have hlat : Later wb W' := h.lat.of_grown hgr fun k hk => by have := hlo k hk; omega
  haveI : New wb px := ⟨hb⟩
  refine ⟨?_, ?_, ?_, ?_, inferInstance⟩
  · rw [← hpl kv v']
    exact (blk_grown h.bx hgr fun j hj => by have := hlo j hj; omega).set_ 5 v'
  · rw [List.length_append, List.map_append]
    exact own_set ho (fun k hk => by have := (ho.lt k hk).1; omega) _ _
  · intro g hg'
    rcases List.mem_append.1 hg' with hg' | hg'
    · obtain ⟨q1, q2⟩ := h.row g hg'
      exact ⟨(blk_grown q1 hgr fun j hj => hty g q1 j hj).far (by show g ≠ px; omega) _, q2⟩
    · simp at hg'
      subst hg'
      exact ⟨(blk_grown hg hgr fun j hj => hty _ hg j hj).far (by show g ≠ px; omega) _, hgp⟩
  · exact List.nodup_append.2 ⟨h.nd, by simp, fun x hx y hy e => by simp at hy; subst hy; subst e; exact hn hx⟩
theorem PlanUp.later {t : Timetable} {wb W W' : World} {px m : Nat} {pl : Value → Array Value} {kv : Value} {gs : List Nat} (h : PlanUp t wb px m pl kv gs W) (hl : Later W W') : PlanUp t wb px m pl kv gs W' :=
  ⟨h.bx.later hl, ownsRow_later h.own hl, fun g hg => ⟨((h.row g hg).1).later hl, (h.row g hg).2⟩, h.nd, h.lat.trans hl⟩
theorem Touch.grown2 {fp : List Nat} {W4 W w' : World} {v : Value} (h : Touch fp W4 W) (hg : W.grownBy w' v.ownBlock) (hlo : ∀ k, v.ownBlock = some k → W4.heap.size ≤ k) : Touch fp W4 w' :=
  ⟨hg.os.trans h.os, hg.tape.trans h.tape, hg.output.trans h.output, Nat.le_trans h.size hg.size, fun k hk hn => (hg.block k (Nat.lt_of_lt_of_le hk h.size) fun e => by have := hlo k e.symm; omega).trans (h.block k hk hn)⟩
theorem KnownOK.keep {t : Timetable} {f : Fleet} {g : Nat → Nat} {W W' : World} (h : KnownOK t f g W) (hk : ∀ i, i < t.Trips.length → W'.heap[g i]? = W.heap[g i]?) : KnownOK t f g W' := fun i hi => by
  obtain ⟨row, h1, h2, h3⟩ := h i hi
  exact ⟨row, (hk i hi).trans h1, h2, h3⟩
theorem own_touch {fp : List Nat} {w W : World} {base : Nat} {e : TypeId} {sz n : Nat} {v : Value} {xs : List Value} (h : w.ownsRow base e sz v n xs) (hT : Touch fp w W) (hlo : ∀ k, k ∈ fp → k < base) : W.ownsRow base e sz v n xs :=
  own_keep h fun k hk => hT.block k (h.lt k hk).2 fun hm => by have := (h.lt k hk).1; have := hlo k hm; omega
theorem PlanUp.env {t : Timetable} {wb W w0 w2 : World} {px m : Nat} {pl : Value → Array Value} {kv : Value} {gs : List Nat} (h : PlanUp t wb px m pl kv gs W) (hm : m = 2 ^ t.Trips.length) (hn : gs.length = t.Trips.length) (h0 : 0 < t.Trips.length) (hw0 : w0.heap.size ≤ px) (hw2 : w2.heap.size ≤ px) :
    ∃ gk ck kc, kv = .slice (some ⟨gk, 0, none⟩) t.Trips.length ck ∧ Blk W gk 67 kc ∧ PlanEnv t w0 w2 kc px gk (fun i => gs.getD i 0) := by
  rcases h.own.2 with ⟨_, e⟩ | ⟨gk, ck, kc, rfl, h1, h2, h3, h4, h5, h6⟩
  · omega
  have hmem : ∀ i, i < t.Trips.length → gs.getD i 0 ∈ gs := fun i hi => by
    rw [List.getD_eq_getElem?_getD, List.getElem?_eq_getElem (by omega)]
    exact List.getElem_mem _
  have hrow : ∀ k, k ∈ gRows t (fun i => gs.getD i 0) → k ∈ gs := by
    intro k hk
    obtain ⟨j, hj, rfl⟩ := List.mem_map.1 hk
    exact hmem j (List.mem_range.1 hj)
  refine ⟨gk, ck, kc, by rw [hn], h2, ?_, ?_, ?_, ?_, ?_⟩
  · intro i hi
    have h7 : (kc.toList.take (gs.length * 1))[i]? = some (.slice (some ⟨gs.getD i 0, 0, none⟩) m m) := by
      rw [h6, List.getElem?_map, List.getElem?_eq_getElem (by omega), List.getD_eq_getElem?_getD, List.getElem?_eq_getElem (by omega)]
      rfl
    rw [List.getElem?_take] at h7
    split at h7
    · rw [← hm]; simpa using h7
    · cases h7
  · intro i j hi hj e
    rw [List.getD_eq_getElem?_getD, List.getD_eq_getElem?_getD, List.getElem?_eq_getElem (by omega), List.getElem?_eq_getElem (by omega)] at e
    exact (List.getElem_inj h.nd).1 (by simpa using e)
  · intro hm9
    have := (h.row px (hrow px hm9)).2
    omega
  · intro hm9
    have h8 := ((h.row gk (hrow gk hm9)).1).symm.trans h2
    simp at h8
  · intro i hi
    have := (h.row _ (hmem i hi)).2
    omega
set_option maxHeartbeats 8000000 in
theorem spec_l11Before {w0 w w2 : World} {sA0 : Option Addr} {sn0 sc0 : Nat} {sA1 : Option Addr} {sn1 sc1 : Nat} {sA2 : Option Addr} {sn2 sc2 : Nat} {t : Timetable} (h : TimetableAt w0 sA0 sn0 sc0 sA1 sn1 sc1 sA2 sn2 sc2 t) (hl : Later w0 w) {qA0 : Option Addr} {qn0 qc0 : Nat} {f : Fleet} (h2 : FleetAt w2 qA0 qn0 qc0 f) (hl2 : Later w2 w) (rf : RunFacts t f) :
    Calls Try.prog 45 #[.agg #[.slice sA0 sn0 sc0, .slice sA1 sn1 sc1, .slice sA2 sn2 sc2], .agg #[.slice qA0 qn0 qc0, .int .i64 f.Turn]] w (RetO 1 oInt ((blkBs t f).map bI) w) := by
  have hsn : sn2 = t.Trips.length := h.l_Trips.len
  subst hsn
  have HB0 : ∀ W [Later ((w.alloc (.cells #[.slice sA0 sn0 sc0, .slice sA1 sn1 sc1, .slice sA2 t.Trips.length sc2] 41)).alloc (.cells #[.slice qA0 qn0 qc0, .int .i64 f.Turn] 43)) W] (j : Nat), W.cell? ⟨w.heap.size, j, none⟩ = #[.slice sA0 sn0 sc0, .slice sA1 sn1 sc1, .slice sA2 t.Trips.length sc2][j]? := Later.boxes (t := 41) (fr := (0, 0)) ((heap_old (by simp; try omega)).trans (heap_new (by simp; try omega))); have HB1 : ∀ W [Later ((w.alloc (.cells #[.slice sA0 sn0 sc0, .slice sA1 sn1 sc1, .slice sA2 t.Trips.length sc2] 41)).alloc (.cells #[.slice qA0 qn0 qc0, .int .i64 f.Turn] 43)) W] (j : Nat), W.cell? ⟨w.heap.size + 1, j, none⟩ = #[.slice qA0 qn0 qc0, .int .i64 f.Turn][j]? := Later.boxes (t := 43) (fr := (0, 0)) (heap_new (by simp; try omega)); obtain ⟨wb, hwb⟩ : ∃ wb : World, wb = ((w.alloc (.cells #[.slice sA0 sn0 sc0, .slice sA1 sn1 sc1, .slice sA2 t.Trips.length sc2] 41)).alloc (.cells #[.slice qA0 qn0 qc0, .int .i64 f.Turn] 43)) := ⟨_, rfl⟩; haveI hbW : Later wb ((w.alloc (.cells #[.slice sA0 sn0 sc0, .slice sA1 sn1 sc1, .slice sA2 t.Trips.length sc2] 41)).alloc (.cells #[.slice qA0 qn0 qc0, .int .i64 f.Turn] 43)) := (by rw [hwb]; exact Later.rfl_); haveI hww : Later w wb := (by rw [hwb]; infer_instance); rw [← hwb] at HB0; rw [← hwb] at HB1; have hbE := Lib.hid (congrArg (fun x : World => x.heap.size) hwb); clear hwb
  have hbs : wb.heap.size = w.heap.size + 2 := by simpa using hbE.out
  have hwb0 := hl.trans hww
  have hwb2 := hl2.trans hww
  clear hbE
  have hlen := rf.time.len
  have hpw := pow4096 hlen
  have hpos : 1 ≤ 2 ^ t.Trips.length := Nat.pow_pos (by omega)
  have hsm := shl_m hlen
  have hsh := u64n (a := t.Trips.length) (by omega)
  obtain ⟨m, hm⟩ : ∃ m, m = 2 ^ t.Trips.length := ⟨_, rfl⟩
  rw [← hm] at hpw hpos hsm
  have HM := Lib.hid hm
  have hmk := make_ints m (by omega)
  clear hm
  go_enter Try.func45, Try.ntmps45
  go_wp2_with fail
  obtain ⟨px, hpx⟩ : ∃ px, px = w.heap.size + 1 + 1 := ⟨_, rfl⟩
  obtain ⟨W1, hW1⟩ : ∃ W1 : World, W1 = (((w.alloc (.cells #[.slice sA0 sn0 sc0, .slice sA1 sn1 sc1, .slice sA2 t.Trips.length sc2] 41)).alloc (.cells #[.slice qA0 qn0 qc0, .int .i64 f.Turn] 43)).alloc (.cells #[.slice sA0 sn0 sc0, .slice sA1 sn1 sc1, .slice sA2 t.Trips.length sc2, .slice qA0 qn0 qc0, .int .i64 f.Turn, .slice none 0 0] 142)) := ⟨_, rfl⟩
  haveI L1 : Later wb W1 := by rw [hW1]; infer_instance
  obtain ⟨pl, hpl⟩ : ∃ pl : Value → Array Value, pl = fun kv => #[.slice sA0 sn0 sc0, .slice sA1 sn1 sc1, .slice sA2 t.Trips.length sc2, .slice qA0 qn0 qc0, .int .i64 f.Turn, kv] := ⟨_, rfl⟩
  have hplc : ∀ kv, pl kv = #[.slice sA0 sn0 sc0, .slice sA1 sn1 sc1, .slice sA2 t.Trips.length sc2, .slice qA0 qn0 qc0, .int .i64 f.Turn, kv] := fun kv => by rw [hpl]
  have hpls : ∀ a b, (pl a).setIfInBounds 5 b = pl b := fun a b => by rw [hplc, hplc]; rfl
  have hup : PlanUp t wb px m pl (.slice none 0 0) [] W1 := by
    refine ⟨?_, ⟨rfl, .inl ⟨rfl, rfl⟩⟩, by simp, by simp, L1⟩
    have h9 := Blk.new ((w.alloc (.cells #[.slice sA0 sn0 sc0, .slice sA1 sn1 sc1, .slice sA2 t.Trips.length sc2] 41)).alloc (.cells #[.slice qA0 qn0 qc0, .int .i64 f.Turn] 43)) 142 #[.slice sA0 sn0 sc0, .slice sA1 sn1 sc1, .slice sA2 t.Trips.length sc2, .slice qA0 qn0 qc0, .int .i64 f.Turn, .slice none 0 0]
    have e9 : ((w.alloc (.cells #[.slice sA0 sn0 sc0, .slice sA1 sn1 sc1, .slice sA2 t.Trips.length sc2] 41)).alloc (.cells #[.slice qA0 qn0 qc0, .int .i64 f.Turn] 43)).heap.size = px := by rw [hpx]; simp
    rw [e9] at h9
    rw [hW1, hplc]; exact h9
  have hbw : wb.heap.size ≤ px := by omega
  have hws : w.heap.size ≤ wb.heap.size := by omega
  rw [← hpx, ← hW1]
  clear hW1 hpl hpx hbs
  go_loopw [7] (fun iv wr => ∃ (i : Nat) (gs : List Nat) (kv : Value), i ≤ t.Trips.length ∧ iv = .int .i64 (i : Int) ∧ gs.length = i ∧ Hid (PlanUp t wb px m pl kv gs wr)) (fun iv _ => t.Trips.length - (intOf iv).toNat)
  case atStart => exact ⟨0, [], _, by omega, rfl, rfl, Lib.hid hup⟩
  case round =>
    obtain ⟨i, gs, kv, hi, rfl, hgl, HU⟩ := hrel
    subst hgl
    haveI hX : Later wb wr := HU.out.lat
    by_cases hlt : gs.length < t.Trips.length
    · obtain ⟨Wr, hWr⟩ : ∃ Wr : World, Wr = wr := ⟨_, rfl⟩
      subst hWr
      go_wp2_with fail
      obtain ⟨Wq, hWq⟩ : ∃ Wq : World, Wq = Wr.alloc (.cells (rowA (List.replicate m 0)) 3) := ⟨_, rfl⟩
      obtain ⟨g', hg'⟩ : ∃ g', g' = Wr.heap.size := ⟨_, rfl⟩
      have hq : Blk Wq g' 3 (rowA (List.replicate m 0)) := by rw [hWq, hg']; exact Blk.new _ _ _
      haveI Lq : Later Wr Wq := by rw [hWq]; infer_instance
      rw [← hWq, ← hg']
      have hgw : Wr.heap.size ≤ g' := by omega
      have hpxg : px < g' := by have := HU.out.bx.lt; omega
      have hgn : g' ∉ gs := fun hm9 => by have := ((HU.out.row g' hm9).1).lt; omega
      have hkg : ∀ k, kv.ownBlock = some k → k ≠ g' := fun k hk => by have := (HU.out.own.lt k hk).2; omega
      clear hWq hg'
      go_loopw [9] (fun jv ws => ∃ (k : Nat) (l' : List Int), k ≤ m ∧ jv = .int .i64 (k : Int) ∧ Hid (Blk ws g' 3 (rowA l')) ∧ Hid (l'.length = m ∧ ∀ j, j < k → l'[j]? = some (-1)) ∧ Hid (Touch [g'] Wq ws)) (fun jv _ => m - (intOf jv).toNat)
      case atStart => exact ⟨0, _, by omega, rfl, Lib.hid hq, Lib.hid ⟨by simp, by omega⟩, Lib.hid Touch.refl_⟩
      case round =>
        obtain ⟨k, l', hk, rfl, hb, hf, hT⟩ := hrel
        by_cases hkm : k < m
        · obtain ⟨v, hv⟩ : ∃ v, l'[k]? = some v := ⟨_, List.getElem?_eq_getElem (by rw [hf.out.1]; exact hkm)⟩
          have hc := hb.out.rowAts hv
          have hz : ∀ (j : Nat) (W : World) [Later wr W], W.frozen? ⟨g', j, none⟩ = false := fun j W hW => (hb.out.later hW).frozen j
          clear hv
          go_wp2
          go_roundw
          case rel => exact ⟨k + 1, l'.set k (-1), by omega, by go_num, Lib.hid (hb.out.rowSet _), Lib.hid (fill_step hf.out hkm), Lib.hid (hT.out.set_ (by simp) _ _)⟩
          case measure => simp [intOf]; omega
        · have hall := all_rep hf.out (by omega)
          have hb2 := hb.out
          rw [hall] at hb2
          have HB2 := Lib.hid hb2
          haveI hrs : Later Wr wr := hT.out.later Lq (fun k9 hk9 => by simp at hk9; omega)
          have HU2 := Lib.hid (HU.out.later hrs)
          haveI hwbs : Later wb wr := HU2.out.lat
          obtain ⟨A8, c8, hv8⟩ := own_shape HU2.out.own
          subst hv8
          have hpc : ∀ W' [Later wr W'] (j : Nat), W'.cell? ⟨px, j, none⟩ = (#[.slice sA0 sn0 sc0, .slice sA1 sn1 sc1, .slice sA2 t.Trips.length sc2, .slice qA0 qn0 qc0, .int .i64 f.Turn, .slice A8 gs.length c8] : Array Value)[j]? := fun W' hW' j => by have h9 := (HU2.out.bx.later hW').cell j; rw [hplc] at h9; exact h9
          have hgl2 : gs.length ≤ 1073741824 := by omega
          have hpxs : px + 1 ≤ wr.heap.size := HU2.out.bx.lt
          clear hall hb2 hb hf
          go_wp2_with (at_builtin; go_loud (refine wpList_app_G rfl _ _ 29 rfl Try.underlying29 infoRow rfl (by decide) (by decide) (base := px + 1) rfl (by exact ownsRow_later HU2.out.own (inferInstance : Later wr _)) (inferInstance : Later wb _) (by omega) (Nat.le_trans hpxs (Later.size (w := wr) inferInstance)) (by first | rfl | simp) rfl (by intro u9 hu9; simp at hu9; subst hu9; rfl) hgl2 ?_; intro v' w9 hown' hX9 hG9; have hB9 := blk_grown (HU2.out.bx.later (inferInstance : Later wr _)) hG9 (fun j hj => by have := (HU2.out.own.lt j hj).1; omega); have hB9c : ∀ W' [Later w9 W'] (j : Nat), W'.cell? ⟨px, j, none⟩ = (#[.slice sA0 sn0 sc0, .slice sA1 sn1 sc1, .slice sA2 t.Trips.length sc2, .slice qA0 qn0 qc0, .int .i64 f.Turn, .slice A8 gs.length c8] : Array Value)[j]? := (fun W' hW' j => by have h9 := (hB9.later hW').cell j; rw [hplc] at h9; exact h9); have hB9f : ∀ (j : Nat) (W' : World) [Later w9 W'], W'.frozen? ⟨px, j, none⟩ = false := (fun j W' hW' => (hB9.later hW').frozen j); obtain ⟨A9, c9', hv9⟩ := own_shape hown'; subst hv9))
          go_roundw
          case rel => exact ⟨gs.length + 1, gs ++ [g'], _, by omega, by go_num, by simp, Lib.hid ((HU2.out.later (inferInstance : Later wr _)).step hbw (HB2.out.later inferInstance) hpxg hgn hkg hG9 hown' hpls)⟩
          case measure => simp [intOf]; omega
    · have hgn : gs.length = t.Trips.length := by omega
      obtain ⟨W4, rfl⟩ : ∃ W4 : World, W4 = wr := ⟨_, rfl⟩
      have henv := fun h0 => HU.out.env (w0 := w0) (w2 := w2) HM.out hgn h0 (Nat.le_trans hwb0.size hbw) (Nat.le_trans hwb2.size hbw)
      obtain ⟨g, hg⟩ : ∃ g : Nat → Nat, g = fun i => gs.getD i 0 := ⟨_, rfl⟩
      rw [← hg] at henv
      have hmem : ∀ i, i < t.Trips.length → g i ∈ gs := fun i hi => by
        rw [hg]
        show gs.getD i 0 ∈ gs
        rw [List.getD_eq_getElem?_getD, List.getElem?_eq_getElem (by omega)]
        exact List.getElem_mem _
      have hK4 : KnownOK t f g W4 := fun i hi => ⟨_, (HU.out.row _ (hmem i hi)).1, by rw [List.length_replicate]; exact HM.out, fun u v hu => by
        rw [List.getElem?_replicate] at hu
        split at hu
        · cases hu; exact .inl rfl
        · cases hu⟩
      have hlow : ∀ k, k ∈ gRows t g → k < W4.heap.size ∧ px < k := by
        intro k hk
        obtain ⟨j, hj, rfl⟩ := List.mem_map.1 hk
        have h9 := HU.out.row _ (hmem j (List.mem_range.1 hj))
        exact ⟨h9.1.lt, h9.2⟩
      have HENV := Lib.hid henv
      have HLOW := Lib.hid hlow
      have HK4 := Lib.hid hK4
      have HMEM := Lib.hid hmem
      have HBX := Lib.hid HU.out.bx
      have hpx4 : px < W4.heap.size := HU.out.bx.lt
      have HCO := Lib.hid (fun (kc : Array Value) (gk ck : Nat) (pe : PlanEnv t w0 w2 kc px gk g) (r : Nat) => cost_all (kt := 67) (ck := ck) h h2 rf pe r)
      have hRF := Lib.hid rf
      have HH := Lib.hid h
      have HH2 := Lib.hid h2
      clear henv hlow hK4 hmem hg HU h h2 rf hgn hup
      go_wp2_with fail
      obtain ⟨W5, hW5⟩ : ∃ W5 : World, W5 = W4.alloc (.cells #[] 3) := ⟨_, rfl⟩
      have hown5 : W5.ownsRow W4.heap.size 3 1 (.slice (some ⟨W4.heap.size, 0, none⟩) 0 0) 0 [] := by rw [hW5]; exact World.ownsRow_lit W4 #[] 0 (Nat.le_refl _) (by simp [maxLen]) rfl
      haveI L5 : Later W4 W5 := by rw [hW5]; infer_instance
      try rw [← hW5]
      clear hW5
      go_loopw [10, 11, 12] (fun ov uv iv ws => ∃ (i u : Nat) (pre : List (Option Nat)), i ≤ t.Trips.length ∧ iv = .int .i64 (i : Int) ∧ uv = .int .i64 (u : Int) ∧ u < m ∧ Hid (blkBs t f = pre ++ befGo t.Trips.length (folT t f) (ddT t f) (t.Trips.length - i) u ∧ pre.length = i) ∧ Hid (ws.ownsRow W4.heap.size 3 1 ov i ((pre.map bI).map (Value.int .i64))) ∧ Hid (KnownOK t f g ws) ∧ Hid (Touch (gRows t g) W4 ws)) (fun _ _ iv _ => t.Trips.length - (intOf iv).toNat)
      case atStart => exact ⟨0, 0, [], by omega, rfl, rfl, by omega, Lib.hid ⟨by simp [blkBs], rfl⟩, Lib.hid hown5, Lib.hid (HK4.out.later L5), Lib.hid (Touch.of_later L5)⟩
      case round =>
        obtain ⟨i, u, pre, hi, rfl, rfl, hu, HP, hown, hK, hT⟩ := hrel
        haveI hXb : Later wb wr := hT.out.later hX (fun k hk => by have := HLOW.out k hk; omega)
        have hw4 := hT.out.size
        by_cases hlt : i < t.Trips.length
        · obtain ⟨gk, ck, kc, hkv, hgk, pe⟩ := HENV.out (by omega)
          have hbx4 := HBX.out
          rw [hkv, hplc] at hbx4
          have hpxr := hT.out.blk hbx4 pe.px
          have hgkr := hT.out.blk hgk pe.gk
          have hgl0 : ∀ k, k ∈ gRows t g → w0.heap.size ≤ k := fun k hk => by have := (HLOW.out k hk).2; have := hwb0.size; omega
          have hgl2 : ∀ k, k ∈ gRows t g → w2.heap.size ≤ k := fun k hk => by have := (HLOW.out k hk).2; have := hwb2.size; omega
          have hglb : ∀ k, k ∈ gRows t g → wb.heap.size ≤ k := fun k hk => by have := (HLOW.out k hk).2; omega
          have hgl4 : ∀ k, k ∈ gRows t g → k < W4.heap.size := fun k hk => (HLOW.out k hk).1
          have l0r := hT.out.later (hwb0.trans hX) hgl0
          have l2r := hT.out.later (hwb2.trans hX) hgl2
          obtain ⟨r, hr⟩ : ∃ r, r = t.Trips.length - (i + 1) := ⟨_, rfl⟩
          have hir : i + (r + 1) = t.Trips.length := by omega
          have hP1 := HP.out.1
          have hP2 := HP.out.2
          rw [show t.Trips.length - i = r + 1 by omega] at hP1
          simp only [befGo] at hP1
          have HP1 := Lib.hid hP1
          have HP2 := Lib.hid hP2
          have hum : u < 2 ^ t.Trips.length := by rw [← HM.out]; exact hu
          have HC := Lib.hid (HCO.out kc gk ck pe)
          obtain ⟨cw, hcw⟩ : ∃ cw, cw = csT t f (r + 1) u := ⟨_, rfl⟩
          obtain ⟨c1, hc1⟩ : ∃ c1, c1 = csT t f r u := ⟨_, rfl⟩
          have hb1 := csT_bd hRF.out (r := r) (by omega) u
          have hbw2 := csT_bd hRF.out (r := r + 1) (by omega) u
          rw [← hc1] at hb1
          rw [← hcw] at hbw2
          have HCW := Lib.hid hcw
          have HC1 := Lib.hid hc1
          have hbs := bef_same (n := t.Trips.length) (fol := folT t f) (ddT_bd hRF.out) (r := r) (by omega) u
          have hbe : befS t.Trips.length (folT t f) (ddT t f) r u = if 100000 + c1 = cw then none else (List.range t.Trips.length).find? (hitS t.Trips.length (folT t f) (ddT t f) r u) := by rw [hc1, hcw]; rfl
          rw [hbs] at hbe
          obtain ⟨A8, c8, hv8⟩ := own_shape hown.out
          subst hv8
          have HPE := Lib.hid pe
          have hi2 : i ≤ 1073741824 := by omega
          have hwb4 : wb.heap.size ≤ W4.heap.size := hX.size
          clear hkv hbx4 hgk pe hP1 hP2 hr hcw hc1 hbs HP
          by_cases he : 100000 + c1 = cw
          · rw [if_pos he] at hbe
            have HBE := Lib.hid hbe
            have hne := (beqi_t he).1
            clear hbe
            go_wp2_with fail
            (go_at_call 94; refine (HC.out (r + 1) wr _ _ i u rfl rfl hir hum l0r l2r hpxr hgkr hK.out).mono ?_; rw [← HCW.out]; rintro e w6 ⟨rfl, hK6, hT6⟩; have hT46 := hT.out.trans hT6; have l06 := hT6.later l0r hgl0; have l26 := hT6.later l2r hgl2; have hpx6 := hT6.blk hpxr HPE.out.px; have hgk6 := hT6.blk hgkr HPE.out.gk; have hO6 := own_touch hown.out hT6 hgl4)
            go_wp2_with fail
            (go_at_call 94; refine (HC.out r w6 _ _ (i + 1) u (by omega) rfl (by omega) hum l06 l26 hpx6 hgk6 hK6).mono ?_; rw [← HC1.out]; rintro e w7 ⟨rfl, hK7, hT7⟩; have hT47 := hT46.trans hT7; have l07 := hT7.later l06 hgl0; have l27 := hT7.later l26 hgl2; have hpx7 := hT7.blk hpx6 HPE.out.px; have hgk7 := hT7.blk hgk6 HPE.out.gk; have hO7 := own_touch hO6 hT7 hgl4; haveI hb7 : Later wb w7 := hT47.later hX hglb; have hz7 := hT47.size)
            go_wp2_with (at_builtin; go_loud (refine wpList_app_G rfl _ _ 67 rfl Try.underlying67 infoInt rfl (by decide) (by decide) (base := W4.heap.size) rfl (by exact ownsRow_later hO7 (inferInstance : Later w7 _)) (inferInstance : Later wb _) hwb4 (Nat.le_trans hz7 (Later.size (w := w7) inferInstance)) (by first | rfl | simp) rfl (one_cell _ _) hi2 ?_; intro v' w9 hown' hX9 hG9))
            go_roundw
            case rel =>
              refine ⟨i + 1, u, pre ++ [none], by omega, by go_num, rfl, hu, Lib.hid ⟨?_, by rw [List.length_append, HP2.out]; rfl⟩, Lib.hid (by simpa [bI] using hown'), Lib.hid ((hK7.later (inferInstance : Later w7 _)).keep (fun j hj => hG9.block _ (by have := hgl4 _ (gRows_mem (g := g) hj); simp; omega) (fun e => by have h8 := (hO7.lt _ e.symm).1; have := hgl4 _ (gRows_mem (g := g) hj); omega))), Lib.hid (((hT47.trans (Touch.of_later inferInstance)).grown2 hG9 (fun k hk => (hO7.lt k hk).1)))⟩
              rw [HP1.out, HBE.out, show t.Trips.length - (i + 1) = r by omega, List.append_assoc]
              rfl
            case measure => simp [intOf]; omega
          · rw [if_neg he] at hbe
            have HBE := Lib.hid hbe
            have hne := bnei_t he
            have HE := Lib.hid he
            clear hbe
            go_wp2_with fail
            (go_at_call 94; refine (HC.out (r + 1) wr _ _ i u rfl rfl hir hum l0r l2r hpxr hgkr hK.out).mono ?_; rw [← HCW.out]; rintro e w6 ⟨rfl, hK6, hT6⟩; have hT46 := hT.out.trans hT6; have l06 := hT6.later l0r hgl0; have l26 := hT6.later l2r hgl2; have hpx6 := hT6.blk hpxr HPE.out.px; have hgk6 := hT6.blk hgkr HPE.out.gk; have hO6 := own_touch hown.out hT6 hgl4)
            go_wp2_with fail
            (go_at_call 94; refine (HC.out r w6 _ _ (i + 1) u (by omega) rfl (by omega) hum l06 l26 hpx6 hgk6 hK6).mono ?_; rw [← HC1.out]; rintro e w7 ⟨rfl, hK7, hT7⟩; have hT47 := hT46.trans hT7; have l07 := hT7.later l06 hgl0; have l27 := hT7.later l26 hgl2; have hpx7 := hT7.blk hpx6 HPE.out.px; have hgk7 := hT7.blk hgk6 HPE.out.gk; have hO7 := own_touch hO6 hT7 hgl4; haveI hb7 : Later wb w7 := hT47.later hX hglb; have hz7 := hT47.size)
            go_wp2_with fail
            go_loopw [14, 15] (fun bv av ws => ∃ (a : Nat) (st : Option Nat), a ≤ t.Trips.length ∧ av = .int .i64 (a : Int) ∧ bv = .int .i64 (bI st) ∧ Hid (st = none → ((List.range t.Trips.length).drop a).find? (hitS t.Trips.length (folT t f) (ddT t f) r u) = befOf t.Trips.length (folT t f) (ddT t f) r u) ∧ Hid (∀ x, st = some x → befOf t.Trips.length (folT t f) (ddT t f) r u = some x) ∧ Hid (KnownOK t f g ws) ∧ Hid (Touch (gRows t g) w7 ws)) (fun _ av _ => t.Trips.length - (intOf av).toNat)
            case atStart => exact ⟨0, none, by omega, rfl, rfl, Lib.hid (fun _ => by rw [List.drop_zero]; exact HBE.out.symm), Lib.hid (fun x e => by cases e), Lib.hid hK7, Lib.hid Touch.refl_⟩
            case round =>
              obtain ⟨a, st, ha, rfl, rfl, HF, HS, hKs, hTs⟩ := hrel
              have hT4s := hT47.trans hTs.out
              have l0s := hTs.out.later l07 hgl0
              have l2s := hTs.out.later l27 hgl2
              have hpxs := hTs.out.blk hpx7 HPE.out.px
              have hgks := hTs.out.blk hgk7 HPE.out.gk
              have hOs := own_touch hO7 hTs.out hgl4
              haveI hbs : Later wb wr := hT4s.later hX hglb
              have hzs := hT4s.size
              cases st with
              | some x =>
                have hx := HS.out x rfl
                obtain ⟨hxn, _, _⟩ := bef_some hx
                have hbi : bI (some x) = (x : Int) := rfl
                rw [hbi]
                have hx12 : x < 12 := by omega
                have hshx := u64n (a := x) (by omega)
                have hor := or_nat (u := u) (v := 2 ^ x) (by omega) (by have := pow12 hx12; omega)
                obtain ⟨v, hv2⟩ : ∃ v, v = u ||| 2 ^ x := ⟨_, rfl⟩
                rw [← hv2] at hor
                have hor3 : bits BinOp.or IntKind.i64 (u : Int) (IntKind.i64.wrap (2 ^ x)) = (v : Int) := by
                  rw [show IntKind.i64.wrap (2 ^ x) = ((2 ^ x : Nat) : Int) from by simpa using shl12 hx12]
                  exact hor
                have hor2 : bits BinOp.or IntKind.i64 (u : Int) (wrap64 (2 ^ x)) = (v : Int) := by rw [← wrap_64]; exact hor3
                have hvm : v < m := by rw [hv2, HM.out]; exact or_lt hum hxn
                have HV2 := Lib.hid hv2
                have HX := Lib.hid hx
                clear hbi hx hor hv2 HF HS
                by_cases hal : a < t.Trips.length
                · go_wp2_with (at_builtin; go_loud (refine wpList_app_G rfl _ _ 67 rfl Try.underlying67 infoInt rfl (by decide) (by decide) (base := W4.heap.size) rfl (by exact ownsRow_later hOs (inferInstance : Later wr _)) (inferInstance : Later wb _) hwb4 (Nat.le_trans hzs (Later.size (w := wr) inferInstance)) (by first | rfl | simp) rfl (one_cell _ _) hi2 ?_; intro v' w9 hown' hX9 hG9))
                  go_roundw
                  case rel =>
                    refine ⟨i + 1, v, pre ++ [some x], by omega, by go_num, rfl, hvm, Lib.hid ⟨?_, by rw [List.length_append, HP2.out]; rfl⟩, Lib.hid (by simpa [bI] using hown'), Lib.hid ((hKs.out.later (inferInstance : Later wr _)).keep (fun j hj => hG9.block _ (by have := hgl4 _ (gRows_mem (g := g) hj); simp; omega) (fun e => by have h8 := (hOs.lt _ e.symm).1; have := hgl4 _ (gRows_mem (g := g) hj); omega))), Lib.hid (((hT4s.trans (Touch.of_later inferInstance)).grown2 hG9 (fun k hk => (hOs.lt k hk).1)))⟩
                    rw [HP1.out, HX.out, show t.Trips.length - (i + 1) = r by omega, List.append_assoc, HV2.out]
                    rfl
                  case measure => simp [intOf]; omega
                · go_wp2_with (at_builtin; go_loud (refine wpList_app_G rfl _ _ 67 rfl Try.underlying67 infoInt rfl (by decide) (by decide) (base := W4.heap.size) rfl (by exact ownsRow_later hOs (inferInstance : Later wr _)) (inferInstance : Later wb _) hwb4 (Nat.le_trans hzs (Later.size (w := wr) inferInstance)) (by first | rfl | simp) rfl (one_cell _ _) hi2 ?_; intro v' w9 hown' hX9 hG9))
                  go_roundw
                  case rel =>
                    refine ⟨i + 1, v, pre ++ [some x], by omega, by go_num, rfl, hvm, Lib.hid ⟨?_, by rw [List.length_append, HP2.out]; rfl⟩, Lib.hid (by simpa [bI] using hown'), Lib.hid ((hKs.out.later (inferInstance : Later wr _)).keep (fun j hj => hG9.block _ (by have := hgl4 _ (gRows_mem (g := g) hj); simp; omega) (fun e => by have h8 := (hOs.lt _ e.symm).1; have := hgl4 _ (gRows_mem (g := g) hj); omega))), Lib.hid (((hT4s.trans (Touch.of_later inferInstance)).grown2 hG9 (fun k hk => (hOs.lt k hk).1)))⟩
                    rw [HP1.out, HX.out, show t.Trips.length - (i + 1) = r by omega, List.append_assoc, HV2.out]
                    rfl
                  case measure => simp [intOf]; omega
              | none =>
                have hbi : bI none = -1 := rfl
                rw [hbi]
                by_cases hal : a < t.Trips.length
                · have hF1 := HF.out rfl
                  rw [hit_dropU hal, hitS_at hir] at hF1
                  have HF1 := Lib.hid hF1
                  have ha12 : a < 12 := by omega
                  have hbit := bit_nat (u := u) (a := a) (by omega)
                  have hsha := u64n (a := a) (by omega)
                  clear hbi hF1 HF HS
                  by_cases c2 : u.testBit a = true
                  · rw [if_pos c2] at hbit
                    have hF2 := HF1.out
                    rw [if_neg (by simp [c2])] at hF2
                    have HF2 := Lib.hid hF2
                    clear HF1 hF2
                    go_wp2
                    go_roundw
                    case rel => exact ⟨a + 1, none, by omega, by go_num, rfl, Lib.hid (fun _ => HF2.out), Lib.hid (fun x e => by cases e), hKs, hTs⟩
                    case measure => simp [intOf]; omega
                  · rw [if_neg c2] at hbit
                    have c2f : u.testBit a = false := Bool.eq_false_iff.2 c2
                    cases hfl : folT t f a i with
                    | false =>
                      have hF2 := HF1.out
                      rw [if_neg (by simp [hfl])] at hF2
                      have HF2 := Lib.hid hF2
                      have HFL := Lib.hid hfl
                      clear HF1 hF2 hfl
                      go_wp2_with (go_at_call 95; go_loud (refine (spec_folT HH.out (l0s.trans inferInstance) HH2.out (l2s.trans inferInstance) hRF.out hal hlt).mono ?_; rw [HFL.out]; rintro e w8 ⟨rfl, L8⟩; have V8 := Later.trans (w := wr) inferInstance L8; haveI VB8 := hbs.trans V8))
                      go_roundw
                      case rel => exact ⟨a + 1, none, by omega, by go_num, rfl, Lib.hid (fun _ => HF2.out), Lib.hid (fun x e => by cases e), Lib.hid (hKs.out.later V8), Lib.hid (hTs.out.trans (Touch.of_later V8))⟩
                      case measure => simp [intOf]; omega
                    | true =>
                      have hor := or_nat (u := u) (v := 2 ^ a) (by omega) (by have := pow12 ha12; omega)
                      obtain ⟨v, hv2⟩ : ∃ v, v = u ||| 2 ^ a := ⟨_, rfl⟩
                      rw [← hv2] at hor
                      have hor3 : bits BinOp.or IntKind.i64 (u : Int) (IntKind.i64.wrap (2 ^ a)) = (v : Int) := by
                        rw [show IntKind.i64.wrap (2 ^ a) = ((2 ^ a : Nat) : Int) from by simpa using shl12 ha12]
                        exact hor
                      have hor2 : bits BinOp.or IntKind.i64 (u : Int) (wrap64 (2 ^ a)) = (v : Int) := by rw [← wrap_64]; exact hor3
                      have hvm : v < 2 ^ t.Trips.length := by rw [hv2]; exact or_lt hum hal
                      obtain ⟨dx, hdx⟩ : ∃ dx, dx = ddT t f a i := ⟨_, rfl⟩
                      have hdb := ddT_bd hRF.out a i
                      obtain ⟨c3, hc3⟩ : ∃ c3, c3 = csT t f r v := ⟨_, rfl⟩
                      have hcb := csT_bd hRF.out (r := r) (by omega) v
                      have hF2 := HF1.out
                      rw [← hv2, ← hdx, ← hc3, ← HCW.out, hfl, c2f] at hF2
                      simp only [Bool.not_false, Bool.and_true, Bool.true_and, decide_eq_true_eq] at hF2
                      rw [← hdx] at hdb
                      rw [← hc3] at hcb
                      have HF2 := Lib.hid hF2
                      have HFL := Lib.hid hfl
                      have HDX := Lib.hid hdx
                      have HC3 := Lib.hid hc3
                      clear HF1 hF2 hfl hdx hc3 hv2 hor
                      by_cases hq : dx + c3 = cw
                      · have hq1 := (beqi_t hq).1
                        have hF3 := HF2.out
                        rw [if_pos hq] at hF3
                        have HF3 := Lib.hid hF3.symm
                        clear HF2 hF3
                        go_wp2_with first
                          | (go_at_call 95; go_loud (refine (spec_folT HH.out (l0s.trans inferInstance) HH2.out (l2s.trans inferInstance) hRF.out hal hlt).mono ?_; rw [HFL.out]; rintro e w8 ⟨rfl, L8⟩; have V8 := Later.trans (w := wr) inferInstance L8; haveI VB8 := hbs.trans V8))
                          | (go_at_call 96; go_loud (refine (spec_ddT HH.out (l0s.trans inferInstance) HH2.out (l2s.trans inferInstance) hRF.out hal hlt).mono ?_; rw [← HDX.out]; rintro e w9 ⟨rfl, L9⟩; have V9 := Later.trans (w := wr) inferInstance L9; haveI VB9 := hbs.trans V9))
                          | (go_at_call 94; go_loud (refine (HC.out r w9 _ _ (i + 1) v (by omega) rfl (by omega) hvm (l0s.trans V9) (l2s.trans V9) (hpxs.later V9) (hgks.later V9) (hKs.out.later V9)).mono ?_; rw [← HC3.out]; rintro e w10 ⟨rfl, hK10, hT10⟩; haveI VB10 : Later wb w10 := hT10.later VB9 hglb))
                        go_roundw
                        case rel => exact ⟨a + 1, some a, by omega, by go_num, rfl, Lib.hid (fun e => by cases e), Lib.hid (fun x e => by cases e; exact HF3.out), Lib.hid hK10, Lib.hid ((hTs.out.trans (Touch.of_later V9)).trans hT10)⟩
                        case measure => simp [intOf]; omega
                      · have hq1 := (beqi_f hq).1
                        have hF3 := HF2.out
                        rw [if_neg hq] at hF3
                        have HF3 := Lib.hid hF3
                        clear HF2 hF3
                        go_wp2_with first
                          | (go_at_call 95; go_loud (refine (spec_folT HH.out (l0s.trans inferInstance) HH2.out (l2s.trans inferInstance) hRF.out hal hlt).mono ?_; rw [HFL.out]; rintro e w8 ⟨rfl, L8⟩; have V8 := Later.trans (w := wr) inferInstance L8; haveI VB8 := hbs.trans V8))
                          | (go_at_call 96; go_loud (refine (spec_ddT HH.out (l0s.trans inferInstance) HH2.out (l2s.trans inferInstance) hRF.out hal hlt).mono ?_; rw [← HDX.out]; rintro e w9 ⟨rfl, L9⟩; have V9 := Later.trans (w := wr) inferInstance L9; haveI VB9 := hbs.trans V9))
                          | (go_at_call 94; go_loud (refine (HC.out r w9 _ _ (i + 1) v (by omega) rfl (by omega) hvm (l0s.trans V9) (l2s.trans V9) (hpxs.later V9) (hgks.later V9) (hKs.out.later V9)).mono ?_; rw [← HC3.out]; rintro e w10 ⟨rfl, hK10, hT10⟩; haveI VB10 : Later wb w10 := hT10.later VB9 hglb))
                        go_roundw
                        case rel => exact ⟨a + 1, none, by omega, by go_num, rfl, Lib.hid (fun _ => HF3.out), Lib.hid (fun x e => by cases e), Lib.hid hK10, Lib.hid ((hTs.out.trans (Touch.of_later V9)).trans hT10)⟩
                        case measure => simp [intOf]; omega
                · exfalso
                  obtain rfl : a = t.Trips.length := by omega
                  have h9 := HF.out rfl
                  rw [(List.drop_eq_nil_of_le (by simp) : (List.range t.Trips.length).drop t.Trips.length = [])] at h9
                  have h8 := bef_none h9.symm
                  obtain ⟨k1, k2⟩ := lk_same (n := t.Trips.length) (fol := folT t f) (ddT_bd hRF.out) r (by omega) u
                  obtain ⟨k3, k4⟩ := lk_same (n := t.Trips.length) (fol := folT t f) (ddT_bd hRF.out) (r + 1) (by omega) u
                  refine HE.out ?_
                  rw [HC1.out, HCW.out]
                  unfold csT
                  rw [k2, k4, ← h8]
                  unfold costOfL
                  omega
        · obtain rfl : i = t.Trips.length := by omega
          have hfin : blkBs t f = pre := by rw [HP.out.1, Nat.sub_self]; simp [befGo]
          have hown2 := hown.out
          have hbl := blkBs_len t f
          rw [← hfin] at hown2
          obtain ⟨A9, c9, fp9, rfl, ho9, hnd9, hlo9⟩ := OSl.ints_of_own (by simpa [hbl] using hown2 : wr.ownsRow W4.heap.size 3 1 _ ((blkBs t f).map bI).length (((blkBs t f).map bI).map (Value.int .i64))) (fun y hy => by
            obtain ⟨o, ho, rfl⟩ := List.mem_map.1 hy
            cases o with
            | none => show I64 (-1); unfold I64; omega
            | some a =>
              obtain ⟨j, hj⟩ := List.getElem?_of_mem ho
              have := ((blkLinks hRF.out).lt j a hj).1
              show I64 (a : Int)
              unfold I64; omega)
          have HO9 := Lib.hid ho9
          go_wp2
          go_ret
          exact ⟨A9, _, c9, fp9, rfl, HO9.out, hnd9, fun k hk => by have := hlo9 k hk; omega, hww.trans hXb⟩
end Go.Proofs.Ytaopadffabbjiaa
