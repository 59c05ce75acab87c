/-
  Headways, the best offsets: patterns as cells, writing into what is owned, the state that the closure keeps. Lemmas only.
-/
import Derived.Test.YtaopadffabbjiaaBoP
import Derived.Test.YtaopadffabbjiaaOwnK
import Derived.Test.YtaopadffabbjiaaHeadE
namespace Go.Proofs.Ytaopadffabbjiaa
open Go Go.RowKit
set_option linter.unusedVariables false
set_option maxRecDepth 100000
set_option linter.unusedSimpArgs false
/-- A slice in blocks of its own, a number and a Bool. -/
def RetO3 {α : Type} (sz : Nat) (ro : ORep α) (l : List α) (z : Int) (b : Bool) (w : World) (e : Ending) (w' : World) : Prop :=
  ∃ A n c fp, e = .returned (.tuple #[.slice A n c, .int .i64 z, .bool b]) ∧ OSl sz ro w' A n c l fp ∧ fp.Nodup ∧ (∀ g, g ∈ fp → w.heap.size ≤ g) ∧ Later w w'
def encPt (c : Pattern) : List Value := [.int .i64 c.Line, .int .i64 c.Offset]
instance encPtE : Enc 2 rPattern encPt where
  len := fun x => rfl
  one := fun x u h => by
    simp only [encPt, List.mem_cons, List.not_mem_nil, or_false] at h
    rcases h with rfl | rfl <;> rfl
  eq := fun h => h.1
  all := fun h W' => ⟨rfl, h.2⟩
theorem infoPt : (Try.prog.info? 122).map (fun i => (i.zero, i.size, i.bytes)) = some (some (.agg #[.int .i64 0, .int .i64 0]), 2, 16) := by kernel_rfl
/-- A cell of what is owned, written. -/
theorem own_put {w : World} {base : Nat} {e : TypeId} {sz n g c : Nat} {xs : List Value} (h : w.ownsRow base e sz (.slice (some ⟨g, 0, none⟩) n c) n xs) (j : Nat) (u : Value) :
    (w.setCell ⟨g, j, none⟩ u).ownsRow base e sz (.slice (some ⟨g, 0, none⟩) n c) n (xs.set j u) := by
  obtain ⟨h1, h2⟩ := h
  refine ⟨by simpa using h1, ?_⟩
  rcases h2 with ⟨h2, _⟩ | ⟨g', cap, cur, h2, h3, h4, h5, h6, h7, h8⟩
  · cases h2
  · cases h2
    refine .inr ⟨g, c, cur.setIfInBounds j u, rfl, h3, Blk.set_ (show Blk w g e cur from h4) j u, h5, h6, by simpa using h7, ?_⟩
    rw [Array.toList_setIfInBounds, List.take_set, h8]
/-- .. and read. -/
theorem own_cellF {w : World} {base : Nat} {e : TypeId} {sz n g c : Nat} {xs : List Value} (h : w.ownsRow base e sz (.slice (some ⟨g, 0, none⟩) n c) n xs) {j : Nat} {u : Value} (hu : xs[j]? = some u) :
    ∀ W [Later w W], W.cell? ⟨g, j, none⟩ = some u := by
  rcases h.2 with ⟨h2, _⟩ | ⟨g', cap, cur, h2, h3, h4, h5, h6, h7, h8⟩
  · cases h2
  · cases h2
    intro W hW
    rw [((show Blk w g e cur from h4).later hW).cell j]
    have h9 := hu
    rw [← h8, List.getElem?_take] at h9
    split at h9
    · rw [← h9]; simp
    · cases h9
theorem own_lower {w : World} {base b2 : Nat} {e : TypeId} {sz n : Nat} {v : Value} {xs : List Value} (h : w.ownsRow base e sz v n xs) (hb : b2 ≤ base) : w.ownsRow b2 e sz v n xs := by
  obtain ⟨h1, h2⟩ := h
  refine ⟨h1, ?_⟩
  rcases h2 with h2 | ⟨g, cap, cur, h2, h3, h4⟩
  · exact .inl h2
  · exact .inr ⟨g, cap, cur, h2, Nat.le_trans hb h3, h4⟩
theorem own_someP {W : World} {base : Nat} {e : TypeId} {sz : Nat} {v : Value} {n : Nat} {xs : List Value} (h : W.ownsRow base e sz v n xs) (hn : 0 < n) : ∃ g c, v = .slice (some ⟨g, 0, none⟩) n c := by
  rcases h.2 with ⟨_, rfl⟩ | ⟨g, cap, cur, h2, _⟩
  · omega
  · exact ⟨g, cap, h2⟩
theorem own_blk {w : World} {base : Nat} {e : TypeId} {sz n g c : Nat} {xs : List Value} (h : w.ownsRow base e sz (.slice (some ⟨g, 0, none⟩) n c) n xs) : ∃ cs, Blk w g e cs ∧ base ≤ g := by
  rcases h.2 with ⟨h2, _⟩ | ⟨g', cap, cur, h2, h3, h4, _⟩
  · cases h2
  · cases h2; exact ⟨cur, h4, h3⟩
/-- Flat structs in what is owned, as a slice that is read. -/
theorem own_sl {α : Type} {sz : Nat} {r : Rep α} {enc : α → List Value} [he : Enc sz r enc] {w : World} {base : Nat} {e : TypeId} {n : Nat} {l : List α} {A : Option Addr} {c : Nat} (h : w.ownsRow base e sz (.slice A n c) n (l.flatMap enc)) (hn : n = l.length) (hok : ∀ x, x ∈ l → ∀ W, r W (enc x) x) :
    Sl sz r w A n c l := by
  obtain ⟨A', c', fp, e1, ho, _⟩ := OSl.of_flat (r := r) h hn hok
  cases e1
  exact ho.reads
theorem pt_set {l : List Pattern} {i : Nat} {p : Pattern} {o : Int} (h : l[i]? = some p) : (l.flatMap encPt).set (i * 2 + 1) (.int .i64 o) = (l.set i (offSet p o)).flatMap encPt := by
  induction l generalizing i with
  | nil => cases h
  | cons x l ih =>
    cases i with
    | zero => cases h; rfl
    | succ i =>
      have h2 := ih (i := i) (by simpa using h)
      simp only [List.flatMap_cons, List.set_cons_succ, ← h2]
      show (encPt x ++ l.flatMap encPt).set ((i + 1) * 2 + 1) _ = encPt x ++ (l.flatMap encPt).set (i * 2 + 1) _
      rw [show (i + 1) * 2 + 1 = (encPt x).length + (i * 2 + 1) from by simp [encPt]; omega, List.set_append_right _ _ (by omega)]
      congr 2
      omega
theorem pt_at {l : List Pattern} {i : Nat} {p : Pattern} (h : l[i]? = some p) : (l.flatMap encPt)[i * 2]? = some (.int .i64 p.Line) ∧ (l.flatMap encPt)[i * 2 + 1]? = some (.int .i64 p.Offset) :=
  ⟨flat_at encPtE.len l h (j := 0) rfl, flat_at encPtE.len l h (j := 1) rfl⟩
theorem pat_ok {n : Network} {period : Int} {l : List Pattern} (pf : PatFacts n period l) (hn : (n.Lines.length : Int) ≤ 1048576) : ∀ x, x ∈ l → ∀ W, rPattern W (encPt x) x := by
  intro x hx W
  obtain ⟨i, hi⟩ := List.getElem?_of_mem hx
  have h1 := pf.pat i x hi
  have h2 := pf.per
  exact ⟨rfl, ⟨by unfold I64; omega, by unfold I64; omega⟩⟩
/-! ### What the closure keeps -/
def offCaps (b g : Nat) : Array Value :=
  #[.pointer (some ⟨g, 0, none⟩), .pointer (some ⟨b + 1, 0, none⟩), .pointer (some ⟨g + 3, 0, none⟩), .pointer (some ⟨b, 0, none⟩), .pointer (some ⟨b + 2, 0, none⟩), .pointer (some ⟨g + 1, 0, none⟩), .pointer (some ⟨g + 2, 0, none⟩)]
def offAt (n : Network) (period : Int) (l : List Pattern) (stop : Int) (c : Nat) : List Int × Int := bestO n period l stop (bstC (gapC n period l stop) c)
theorem offAt_bd {n : Network} {period : Int} {l : List Pattern} {stop : Int} (pf : PatFacts n period l) (c : Nat) : ∀ y, y ∈ (offAt n period l stop c).1 → I64 y := by
  intro y hy
  have hp := pf.per
  unfold offAt at hy
  cases hb : bstC (gapC n period l stop) c with
  | none => rw [hb] at hy; simp [bestO] at hy
  | some b =>
    rw [hb] at hy
    have := (offsC_in (c := b) pf).bd y hy
    unfold I64; omega
structure OffSt (n : Network) (period : Int) (l : List Pattern) (stop : Int) (wb : World) (b g tq tn tc : Nat) (tY : TypeId) (W : World) (os : List Int) (c : Nat) : Prop where
  lat : Later wb W
  hin : OffsIn l period os
  lo : wb.heap.size ≤ tq
  hi : tq < g
  bT : Blk W g 71 #[.slice (some ⟨tq, 0, none⟩) tn tc]
  bY : Blk W (g + 3) tY #[.func (.func 85) #[] (offCaps b g)]
  own : W.ownsRow wb.heap.size 122 2 (.slice (some ⟨tq, 0, none⟩) tn tc) tn ((withO l os).flatMap encPt)
  bL : Blk W (g + 2) 3 #[.int .i64 (offAt n period l stop c).2]
  best : ∃ v, Blk W (g + 1) 67 #[v] ∧ W.ownsRow (g + 4) 3 1 v (offAt n period l stop c).1.length ((offAt n period l stop c).1.map (Value.int .i64)) ∧ (bstC (gapC n period l stop) c = none → v = .slice none 0 0)
section
variable {n : Network} {period : Int} {l : List Pattern} {stop : Int} {wb : World} {b g tq tn tc : Nat} {tY : TypeId} {W W' : World} {os : List Int} {c : Nat}
theorem OffSt.later (h : OffSt n period l stop wb b g tq tn tc tY W os c) (hl : Later W W') : OffSt n period l stop wb b g tq tn tc tY W' os c := by
  obtain ⟨v, h1, h2, h3⟩ := h.best
  exact ⟨h.lat.trans hl, h.hin, h.lo, h.hi, h.bT.later hl, h.bY.later hl, ownsRow_later h.own hl, h.bL.later hl, v, h1.later hl, ownsRow_later h2 hl, h3⟩
theorem OffSt.put (h : OffSt n period l stop wb b g tq tn tc tY W os c) {i : Nat} (hi : i < l.length) {v : Int} (h0 : 0 ≤ v) (h1 : v < period) :
    OffSt n period l stop wb b g tq tn tc tY (W.setCell ⟨tq, i * 2 + 1, none⟩ (.int .i64 v)) (os.set i v) c := by
  obtain ⟨u, u1, u2, u3⟩ := h.best
  have hlo := h.lo
  have hhi := h.hi
  obtain ⟨p, hp⟩ : ∃ p, (withO l os)[i]? = some p := ⟨_, List.getElem?_eq_getElem (by rw [withO_len h.hin.len]; exact hi)⟩
  refine ⟨?_, h.hin.set_ i h0 h1, h.lo, h.hi, h.bT.far (by simp; omega) _, h.bY.far (by simp; omega) _, ?_, h.bL.far (by simp; omega) _, u, u1.far (by simp; omega) _, own_set u2 (fun k hk => by have := (u2.lt k hk).1; omega) _ _, u3⟩
  · have := h.lat
    haveI : New wb tq := ⟨hlo⟩
    infer_instance
  · rw [← withO_set h.hin.len hp, ← pt_set hp]
    exact own_put h.own _ _
/-- While the best offsets are written anew. -/
structure OffMid (n : Network) (period : Int) (l : List Pattern) (stop : Int) (wb : World) (b g tq tn tc : Nat) (tY : TypeId) (W : World) (os : List Int) (z : Int) (v : Value) (ls : List Int) : Prop where
  lat : Later wb W
  hin : OffsIn l period os
  lo : wb.heap.size ≤ tq
  hi : tq < g
  bT : Blk W g 71 #[.slice (some ⟨tq, 0, none⟩) tn tc]
  bY : Blk W (g + 3) tY #[.func (.func 85) #[] (offCaps b g)]
  own : W.ownsRow wb.heap.size 122 2 (.slice (some ⟨tq, 0, none⟩) tn tc) tn ((withO l os).flatMap encPt)
  bL : Blk W (g + 2) 3 #[.int .i64 z]
  bB : Blk W (g + 1) 67 #[v]
  new : W.ownsRow (g + 4) 3 1 v ls.length (ls.map (Value.int .i64))
theorem OffSt.mid (h : OffSt n period l stop wb b g tq tn tc tY W os c) (hg : wb.heap.size ≤ g) (z : Int) :
    OffMid n period l stop wb b g tq tn tc tY ((W.setCell ⟨g + 1, 0, none⟩ (.slice none 0 0)).setCell ⟨g + 2, 0, none⟩ (.int .i64 z)) os z (.slice none 0 0) [] := by
  obtain ⟨u, u1, u2, u3⟩ := h.best
  have hlo := h.lo
  have hhi := h.hi
  have hlat := h.lat
  haveI : New wb (g + 1) := ⟨by omega⟩
  haveI : New wb (g + 2) := ⟨by omega⟩
  refine ⟨inferInstance, h.hin, h.lo, h.hi, (h.bT.far (by simp) _).far (by simp) _, (h.bY.far (by simp) _).far (by simp) _, own_set (own_set h.own (fun k hk => by cases hk; show tq ≠ _; omega) _ _) (fun k hk => by cases hk; show tq ≠ _; omega) _ _, ?_, ?_, ⟨rfl, .inl ⟨rfl, rfl⟩⟩⟩
  · exact (h.bL.far (by simp) _).set_ 0 _
  · exact ((u1.set_ 0 (.slice none 0 0)).far (by simp) _)
theorem OffMid.later {z : Int} {v : Value} {ls : List Int} (h : OffMid n period l stop wb b g tq tn tc tY W os z v ls) (hl : Later W W') : OffMid n period l stop wb b g tq tn tc tY W' os z v ls :=
  ⟨h.lat.trans hl, h.hin, h.lo, h.hi, h.bT.later hl, h.bY.later hl, ownsRow_later h.own hl, h.bL.later hl, h.bB.later hl, ownsRow_later h.new hl⟩
/-- One offset more. -/
theorem OffMid.step {z : Int} {v v' : Value} {ls : List Int} {x : Int} (h : OffMid n period l stop wb b g tq tn tc tY W os z v ls) (hg : wb.heap.size ≤ g) (hb : g + 4 ≤ W.heap.size) (hgr : W.grownBy W' v.ownBlock) (ho : W'.ownsRow (g + 4) 3 1 v' (ls.length + 1) (ls.map (Value.int .i64) ++ [.int .i64 x])) :
    OffMid n period l stop wb b g tq tn tc tY (W'.setCell ⟨g + 1, 0, none⟩ v') os z v' (ls ++ [x]) := by
  have hlo := h.lo
  have hhi := h.hi
  have hlat : Later wb W' := h.lat.of_grown hgr fun k hk => by have := (h.new.lt k hk).1; omega
  haveI : New wb (g + 1) := ⟨by omega⟩
  have hne : ∀ j, v.ownBlock = some j → ∀ k, k < g + 4 → k ≠ j := fun j hj k hk => by have := (h.new.lt j hj).1; omega
  have hown : W'.ownsRow wb.heap.size 122 2 (.slice (some ⟨tq, 0, none⟩) tn tc) tn ((withO l os).flatMap encPt) :=
    own_grown h.own hgr fun k hk j hj => by cases hk; exact hne j hj tq (by omega)
  refine ⟨inferInstance, h.hin, h.lo, h.hi, (blk_grown h.bT hgr fun j hj => hne j hj _ (by omega)).far (by simp) _, (blk_grown h.bY hgr fun j hj => hne j hj _ (by omega)).far (by simp) _, own_set hown (fun k hk => by cases hk; show tq ≠ _; omega) _ _, (blk_grown h.bL hgr fun j hj => hne j hj _ (by omega)).far (by simp) _, ?_, ?_⟩
  · exact (blk_grown h.bB hgr fun j hj => hne j hj _ (by omega)).set_ 0 v'
  · refine own_set ?_ (fun k hk => by have := (ho.lt k hk).1; omega) _ _
    simpa using ho
theorem OffMid.done {v : Value} {u : Nat} (h : OffMid n period l stop wb b g tq tn tc tY W os (gapC n period l stop u) v os) (hos : os = offsC l period.toNat u) (hb : bstC (gapC n period l stop) (u + 1) = some u) :
    OffSt n period l stop wb b g tq tn tc tY W os (u + 1) := by
  have e : offAt n period l stop (u + 1) = (os, gapC n period l stop u) := by unfold offAt; rw [hb, hos]; rfl
  exact ⟨h.lat, h.hin, h.lo, h.hi, h.bT, h.bY, h.own, by rw [e]; exact h.bL, v, h.bB, by rw [e]; exact h.new, fun hn => by rw [hb] at hn; cases hn⟩
theorem OffSt.old {u : Nat} (h : OffSt n period l stop wb b g tq tn tc tY W os u) (hb : bstC (gapC n period l stop) (u + 1) = bstC (gapC n period l stop) u) :
    OffSt n period l stop wb b g tq tn tc tY W os (u + 1) := by
  have e : offAt n period l stop (u + 1) = offAt n period l stop u := by unfold offAt; rw [hb]
  obtain ⟨v, h1, h2, h3⟩ := h.best
  exact ⟨h.lat, h.hin, h.lo, h.hi, h.bT, h.bY, h.own, by rw [e]; exact h.bL, v, h1, by rw [e]; exact h2, fun hn => h3 (by rw [← hb]; exact hn)⟩
theorem OffSt.sl (h : OffSt n period l stop wb b g tq tn tc tY W os c) (pf : PatFacts n period l) (hn : (n.Lines.length : Int) ≤ 1048576) (htn : tn = l.length) : Patterns W (some ⟨tq, 0, none⟩) tn tc (withO l os) :=
  own_sl h.own (by rw [withO_len h.hin.len]; exact htn) (pat_ok (withO_pat pf h.hin) hn)
end
end Go.Proofs.Ytaopadffabbjiaa
