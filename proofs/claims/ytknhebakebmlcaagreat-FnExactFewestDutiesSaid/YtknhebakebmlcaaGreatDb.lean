/-
 append(own, l...): a whole slice of numbers behind what is the call's own.
 append(own, l...): a whole slice, of flat elements, copied into blocks of the call's own.
 A block of the call's own, of which the size alone is known. Lemmas only.
 Blocks: when each begins and ends (spanOf, BlockSpans).
 Duties: the gaps between pieces, the length of a duty (gapsIn, lengthOf).
-/
import Derived.Test.YtknhebakebmlcaaGreatKa
import Derived.Laws.Cover3
import Derived.Test.YtknhebakebmlcaaGreatDa
import Derived.StillTailTactics
namespace Go.Proofs.YtknhebakebmlcaaGreat
open Go Go.RowKit
set_option linter.unusedVariables false
set_option maxRecDepth 100000
theorem wpList_app_N {P : Program} {ops : Array Oper} {rest : List Oper} {o : Oper} {a : Act} {Q : Exit → Act → World → Prop} (hgd : o.guard = none) (s x : Operand) (t : TypeId)
  (ho : o.op = .call { callee := .builtin .append, args := #[s, x], argTypes := #[t, t] }) {e : TypeId} (ht : P.underlying t = some (.slice e))
  (hi : (P.info? e).map (fun i => (i.zero, i.size, i.bytes)) = some (some (.int .i64 0), 1, 8))
  {w0 W : World} {base : Nat} {v : Value} {n : Nat} {xs : List Value} (hs : a.eval s = v) (hown : W.ownsRow base e 1 v n xs) (hL : Later w0 W) (hb0 : w0.heap.size ≤ base) (hb1 : base ≤ W.heap.size)
  {A : Option Addr} {m c : Nat} {l : List Int} (hx : a.eval x = .slice A m c) (hl : Ints W A m c l) (hm : 0 < m) (hn : n + m ≤ 1073741824)
  (h : ∀ v' w', w'.ownsRow base e 1 v' (n + m) (xs ++ l.map (Value.int .i64)) → Later w0 w' → wpList P ops Q rest (a.put o.dst v') w') : wpList P ops Q (o :: rest) a W := by
 obtain ⟨i, i1, i2, i3, i4⟩ := info_parts hi
 have hb : (n + m) * 8 ≤ 140737488355328 := by omega
 obtain ⟨y0, hy0⟩ : ∃ y, l[0]? = some y := ⟨_, List.getElem?_eq_getElem (by have := hl.len; omega)⟩
 obtain ⟨b, o', _, rfl, _, _, _⟩ := hl.el 0 y0 hy0
 refine wpList_append_own _ hgd s x t ho base e i (.int .i64 0) 1 8 ht i1 i2 i3 i4 rfl (by decide) v n xs hs hown ⟨b, o', none⟩ m c (l.map (Value.int .i64)) hx (by rw [List.length_map, ← hl.len]; omega) (fun j u hu => ?_) (fun u hu => ?_) (by unfold maxLen; omega) hb hb1 (fun v' w' h2 h3 _ => ?_)
 ·rw [List.getElem?_map, Option.map_eq_some_iff] at hu
  obtain ⟨y, hy, rfl⟩ := hu
  obtain ⟨b', o'', es, hA, hel, hc, hr⟩ := hl.el j y hy
  cases hA
  have hadd : (⟨b, o', none⟩ : Addr).add j = ⟨b, o' + j, none⟩ := by unfold Addr.add; split <;> simp_all
  rw [hadd]
  have := hc 0 (.int .i64 y) (by rw [hr.1]; rfl)
  simpa using this
 ·obtain ⟨y, _, rfl⟩ := List.mem_map.1 hu
  rfl
 ·exact h v' w' h2 (hL.of_grown h3 fun g hg => Nat.le_trans hb0 (hown.lt g hg).1)
/-- append(own, x) as one operation of a drawn region. -/
theorem wp_app_B {P : Program} {o : Oper} {a : Act} {K : Act → World → Prop} {Q : Exit → Act → World → Prop} (s x : Operand) (t : TypeId)
  (ho : o.op = .call { callee := .builtin .append, args := #[s, x], argTypes := #[t, t] }) {e : TypeId} {z : Value} {size bytes : Nat} (ht : P.underlying t = some (.slice e))
  (hi : (P.info? e).map (fun i => (i.zero, i.size, i.bytes)) = some (some z, size, bytes)) (hz : z.cells.size = size) (hsz : 0 < size) (hby : bytes ≤ 4096)
  {w0 W : World} {base : Nat} {v : Value} {n : Nat} {xs : List Value} (hs : a.eval s = v) (hown : W.ownsRow base e size v n xs) (hL : Later w0 W) (hb0 : w0.heap.size ≤ base) (hb1 : base ≤ W.heap.size) {cs : Array Value} {te : TypeId}
  (hx : a.eval x = .slice (some ⟨W.heap.size, 0, none⟩) 1 1) (hl : cs.size = size) (h1 : ∀ u ∈ cs.toList, u.oneCell' = true) (hn : n ≤ 1073741824)
  (h : ∀ v' w', w'.ownsRow base e size v' (n + 1) (xs ++ cs.toList) → Later w0 w' → K (a.put o.dst v') w') : o.wp P a (W.alloc (.cells cs te)) K Q := by
 obtain ⟨i, i1, i2, i3, i4⟩ := info_parts hi
 have hb : (n + 1) * bytes ≤ 140737488355328 := by
  have : (n + 1) * bytes ≤ 1073741825 * 4096 := Nat.mul_le_mul (by omega) hby
  omega
 refine wp_append_own _ s x t ho base e i z size bytes ht i1 i2 i3 i4 hz hsz v n xs hs (hown.alloc _) ⟨W.heap.size, 0, none⟩ 1 1 cs.toList hx (by simpa using hl) (fun j u hu => ?_) h1 (by unfold maxLen; omega) hb
  (by simp; omega) (fun v' w' h2 h3 _ => h v' w' h2 ?_)
 ·have hadd : (⟨W.heap.size, 0, none⟩ : Addr).add j = ⟨W.heap.size, j, none⟩ := by unfold Addr.add; split <;> simp_all
  rw [hadd, World.cell?_alloc_new]
  simpa using hu
 ·have hL' : Later w0 (W.alloc (.cells cs te)) := inferInstance
  exact hL'.of_grown h3 fun g hg => Nat.le_trans hb0 (hown.lt g hg).1
end Go.Proofs.YtknhebakebmlcaaGreat
namespace Go.Proofs.YtknhebakebmlcaaGreat
open Go Go.RowKit
set_option linter.unusedVariables false
set_option maxRecDepth 100000
/-- A flat datum's cells, by a function. -/
class Enc {α : Type} (sz : Nat) (r : Rep α) (enc : outParam (α → List Value)) : Prop where
 len : ∀ x, (enc x).length = sz
 one : ∀ x u, u ∈ enc x → u.oneCell' = true
 eq : ∀ {W : World} {es : List Value} {x : α}, r W es x → es = enc x
 all : ∀ {W : World} {es : List Value} {x : α}, r W es x → ∀ W', r W' (enc x) x
section
variable {α : Type} {sz : Nat} {enc : α → List Value}
theorem flatm_len (hl : ∀ x, (enc x).length = sz) (l : List α) : (l.flatMap enc).length = l.length * sz := by
 induction l with
 | nil => simp
 | cons x l ih => simp only [List.flatMap_cons, List.length_append, ih, hl, List.length_cons, Nat.succ_mul]; omega
theorem flat_at (hl : ∀ x, (enc x).length = sz) (l : List α) {k j : Nat} {x : α} {u : Value} (hk : l[k]? = some x) (hj : (enc x)[j]? = some u) : (l.flatMap enc)[k * sz + j]? = some u := by
 induction l generalizing k with
 | nil => simp at hk
 | cons y l ih =>
  have hjl : j < sz := by have := (List.getElem?_eq_some_iff.1 hj).1; rw [hl] at this; exact this
  rw [List.flatMap_cons]
  cases k with
  | zero =>
   simp at hk; subst hk
   rw [List.getElem?_append_left (by rw [hl]; omega)]
   simpa using hj
  | succ k =>
   have hk' : l[k]? = some x := by simpa using hk
   rw [List.getElem?_append_right (by rw [hl, Nat.succ_mul]; omega), hl]
   rw [show (k + 1) * sz + j - sz = k * sz + j from by rw [Nat.succ_mul]; omega]
   exact ih hk'
theorem flat_of (hl : ∀ x, (enc x).length = sz) (l : List α) {i : Nat} {u : Value} (hi : (l.flatMap enc)[i]? = some u) : ∃ k j x, l[k]? = some x ∧ (enc x)[j]? = some u ∧ i = k * sz + j := by
 induction l generalizing i with
 | nil => simp at hi
 | cons y l ih =>
  rw [List.flatMap_cons] at hi
  by_cases h : i < sz
  ·rw [List.getElem?_append_left (by rw [hl]; exact h)] at hi
   exact ⟨0, i, y, rfl, hi, by omega⟩
  ·rw [List.getElem?_append_right (by rw [hl]; omega), hl] at hi
   obtain ⟨k, j, x, h1, h2, h3⟩ := ih hi
   exact ⟨k + 1, j, x, by simpa using h1, h2, by rw [Nat.succ_mul]; omega⟩
end
theorem run_append_none {P : Program} {w : World} (base : Nat) (t ty e : TypeId) (i : TypeInfo) (size : Nat) (ht : P.underlying t = some (.slice e)) (hi : P.info? e = some i)
  (v : Value) (n : Nat) (xs : List Value) (hown : w.ownsRow base e size v n xs) (c : Nat) : (Builtin.append_ #[t, t] ty #[v, .slice none 0 c]).run P w = .ok v w := by
 rcases hown.2 with ⟨rfl, rfl⟩ | ⟨g, cap, cur, rfl, _, _, hnc, _⟩
 ·simp [Builtin.append_, run_underlying ht, sizeOf, typeInfo, hi, Builtin.lenOf, Builtin.firstCells]
 ·simp [Builtin.append_, run_underlying ht, sizeOf, typeInfo, hi, Builtin.lenOf, Builtin.firstCells, hnc, storeCells]
/-- append(s, x...): s empty and the call's own. -/
theorem wpList_copy {P : Program} {ops : Array Oper} {rest : List Oper} {o : Oper} {a : Act} {Q : Exit → Act → World → Prop} (hgd : o.guard = none) (s x : Operand) (t : TypeId)
  (ho : o.op = .call { callee := .builtin .append, args := #[s, x], argTypes := #[t, t] }) {e : TypeId} {z : Value} {size bytes : Nat} (ht : P.underlying t = some (.slice e))
  (hi : (P.info? e).map (fun i => (i.zero, i.size, i.bytes)) = some (some z, size, bytes)) (hz : z.cells.size = size) (hsz : 0 < size) (hby : bytes ≤ 4096)
  {w0 W : World} {base : Nat} {v : Value} (hs : a.eval s = v) (hown : W.ownsRow base e size v 0 []) (hL : Later w0 W) (hb0 : w0.heap.size ≤ base) (hb1 : base ≤ W.heap.size)
  {α : Type} {r : Rep α} {enc : α → List Value} [he : Enc size r enc] {A : Option Addr} {n c : Nat} {l : List α} (hx : a.eval x = .slice A n c) (hl : Sl size r W A n c l) (hn : n ≤ 1073741824)
  (h : ∀ A' c' fp w', OSl size (oFlat r) w' A' n c' l fp → fp.Nodup → (∀ g, g ∈ fp → base ≤ g) → Later w0 w' → wpList P ops Q rest (a.put o.dst (.slice A' n c')) w') : wpList P ops Q (o :: rest) a W := by
 obtain ⟨i, i1, i2, i3, i4⟩ := info_parts hi
 have hen := he.len
 have hb : (0 + n) * bytes ≤ 140737488355328 := by
  have : (0 + n) * bytes ≤ 1073741824 * 4096 := Nat.mul_le_mul (by omega) hby
  omega
 have fin : ∀ v' w', w'.ownsRow base e size v' n (l.flatMap enc) → Later w0 w' → wpList P ops Q rest (a.put o.dst v') w' := by
  intro v' w' h1 h2
  obtain ⟨A', c', fp, rfl, ho', hnd, hlo⟩ := OSl.of_own (r := r) (l := l) h1 hl.len (fun k y hy => by
   obtain ⟨b', o', es, hA, hel, hc, hr⟩ := hl.el k y hy
   exact ⟨enc y, hen y, fun j u hu => flat_at hen l hy hu, fun W' => he.all hr W'⟩)
  exact h A' c' fp w' ho' hnd hlo h2
 by_cases hn0 : n = 0
 ·subst hn0
  obtain rfl := hl.nil_of
  cases A with
  | none =>
   refine wpList_plain hgd fun K hK => ?_
   have hrun := run_append_none (P := P) (w := W) base t o.type e i size ht i1 v 0 [] hown c
   unfold Oper.wp
   simp [execOp, ho, resolve, invoke, builtin, hs, hx, hrun, Result.andThen]
   exact hK _ _ (fin v W (by simpa using hown) hL)
  | some ad =>
   refine wpList_append_own _ hgd s x t ho base e i z size bytes ht i1 i2 i3 i4 hz hsz v 0 [] hs hown ad 0 c [] hx (by simp) (fun j u hu => by simp at hu) (by simp) (by simp [maxLen]) (by simp) hb1 (fun v' w' h2 h3 _ => ?_)
   exact fin v' w' (by simpa using h2) (hL.of_grown h3 fun g hg => Nat.le_trans hb0 (hown.lt g hg).1)
 ·have hpos : 0 < n := by omega
  obtain ⟨y0, hy0⟩ : ∃ y, l[0]? = some y := ⟨_, List.getElem?_eq_getElem (by have := hl.len; omega)⟩
  obtain ⟨b, o', _, rfl, _, _, _⟩ := hl.el 0 y0 hy0
  refine wpList_append_own _ hgd s x t ho base e i z size bytes ht i1 i2 i3 i4 hz hsz v 0 [] hs hown ⟨b, o', none⟩ n c (l.flatMap enc) hx (by rw [flatm_len hen, ← hl.len]) (fun j u hu => ?_) (fun u hu => ?_) (by unfold maxLen; omega) hb hb1 (fun v' w' h2 h3 _ => ?_)
  ·obtain ⟨k, j', y, h1, h2, rfl⟩ := flat_of hen l hu
   obtain ⟨b', o'', es, hA, hel, hc, hr⟩ := hl.el k y h1
   cases hA
   have := he.eq hr
   subst this
   have hadd : (⟨b, o', none⟩ : Addr).add (k * size + j') = ⟨b, o' + (k * size + j'), none⟩ := by unfold Addr.add; split <;> simp_all
   rw [hadd, ← Nat.add_assoc]
   exact hc j' u h2
  ·obtain ⟨y, _, hu⟩ := List.mem_flatMap.1 hu
   exact he.one y u hu
  ·exact fin v' w' (by simpa using h2) (hL.of_grown h3 fun g hg => Nat.le_trans hb0 (hown.lt g hg).1)
instance : Enc 2 rSpan (fun t => [Value.int .i64 t.From, Value.int .i64 t.To]) := ⟨fun _ => rfl, fun x u hu => (by simp at hu; rcases hu with rfl | rfl <;> rfl), fun h => h.1, fun h _ => ⟨rfl, h.2⟩⟩
instance : Enc 1 rInt (fun x => [Value.int .i64 x]) := ⟨fun _ => rfl, fun x u hu => by simp at hu; subst hu; rfl, fun h => h.1, fun h _ => ⟨rfl, h.2⟩⟩
theorem Sl.none_nil {α : Type} {sz : Nat} {r : Rep α} {w : World} {n c : Nat} {l : List α} (h : Sl sz r w none n c l) : l = [] ∧ n = 0 := by
 have : l = [] := by
  cases l with
  | nil => rfl
  | cons x l => obtain ⟨b, o, es, hA, _⟩ := h.el 0 x rfl; cases hA
 exact ⟨this, by rw [h.len, this]; rfl⟩
theorem eql_nil {P : Program} (w : World) (t e : TypeId) (a : Option Addr) (l c : Nat) (h : P.underlying t = some (.slice e)) : (binOp .eql t (.slice a l c) (.slice none 0 0)).run P w = .ok (.bool a.isNone) w := by
 simp only [binOp]
 simp [run_equal_slice_nil w t e a l c h]
theorem slices_CloneInts {w0 w : World} {A : Option Addr} {n c : Nat} {l : List Int} (h : Sl 1 rInt w0 A n c l) (hl : Later w0 w) (hn : n ≤ 1073741824) :
  Calls Tryz.prog 98 #[.slice A n c] w (RetO 1 (oFlat rInt) l w) := by
 replace h := h.later hl
 cases A with
 | none =>
  obtain ⟨rfl, rfl⟩ := h.none_nil
  have hq : ∀ w : World, (binOp .eql 66 (.slice none 0 c) (.slice none 0 0)).run Tryz.prog w = .ok (.bool true) w := fun w => eql_nil w 66 _ none 0 c Tryz.underlying66
  go_enter Tryz.func98, Tryz.ntmps98
  go_wp2
  go_ret
  exact ⟨_, _, _, [], rfl, OSl.nil_ _, by simp, by simp, inferInstance⟩
 | some ad =>
  have hq : ∀ w : World, (binOp .eql 66 (.slice (some ad) n c) (.slice none 0 0)).run Tryz.prog w = .ok (.bool false) w := fun w => eql_nil w 66 _ (some ad) n c Tryz.underlying66
  go_enter Tryz.func98, Tryz.ntmps98
  go_wp2_with (at_builtin; refine wpList_copy (w0 := w) (base := w.heap.size) rfl _ _ 66 rfl Tryz.underlying66 infoInt rfl (by decide) (by decide) rfl (World.ownsRow_lit w #[] 0 (Nat.le_refl _) (by simp [maxLen]) rfl) inferInstance (Nat.le_refl _) (by simp) rfl (h.later inferInstance) hn ?_; intro A' c' fp w1 ho hnd hlo hX)
  go_ret
  exact ⟨A', n, c', fp, rfl, ho, hnd, hlo, hX⟩
theorem spec_l1Own {w0 w : World} {A : Option Addr} {n c : Nat} {l : List Int} (h : Ints w0 A n c l) (hl : Later w0 w) (hn : n ≤ 1073741824) :
  Calls Tryz.prog 68 #[.slice A n c] w (RetO 1 oInt l w) := by
 replace h := h.later hl
 go_enter Tryz.func68, Tryz.ntmps68
 go_wp2_with (at_builtin; refine wpList_copy (w0 := w) (base := w.heap.size) rfl _ _ 66 rfl Tryz.underlying66 infoInt rfl (by decide) (by decide) rfl (World.ownsRow_lit w #[] 0 (Nat.le_refl _) (by simp [maxLen]) rfl) inferInstance (Nat.le_refl _) (by simp) rfl (h.later inferInstance) hn ?_; intro A' c' fp w1 ho hnd hlo hX)
 go_ret
 exact ⟨A', n, c', fp, rfl, ho, hnd, hlo, hX⟩
end Go.Proofs.YtknhebakebmlcaaGreat
namespace Go.Proofs.YtknhebakebmlcaaGreat
open Go Go.RowKit
set_option linter.unusedVariables false
set_option maxRecDepth 100000
class OwnB (w : World) (g : Nat) (t : TypeId) (n : Nat) : Prop where
 ex : ∃ cs : Array Value, Blk w g t cs ∧ cs.size = n
section
variable {w w' : World} {g n : Nat} {t : TypeId}
theorem OwnB.of {cs : Array Value} (h : Blk w g t cs) (hn : cs.size = n) : OwnB w g t n := ⟨_, h, hn⟩
instance OwnB.alloc_ [h : OwnB w g t n] (o : Obj) : OwnB (w.alloc o) g t n := let ⟨cs, hb, hn⟩ := h.ex; ⟨cs, hb.alloc o, hn⟩
instance OwnB.drew_ [h : OwnB w g t n] : OwnB w.drew g t n := let ⟨cs, hb, hn⟩ := h.ex; ⟨cs, hb.drew, hn⟩
instance OwnB.drewN_ [h : OwnB w g t n] (k : Nat) : OwnB (w.drewN k) g t n := let ⟨cs, hb, hn⟩ := h.ex; ⟨cs, hb, hn⟩
instance OwnB.set_ [h : OwnB w g t n] (i : Nat) (v : Value) : OwnB (w.setCell ⟨g, i, none⟩ v) g t n := let ⟨cs, hb, hn⟩ := h.ex; ⟨_, hb.set_ i v, by simpa using hn⟩
theorem OwnB.later (h : OwnB w g t n) (hl : Later w w') : OwnB w' g t n := let ⟨cs, hb, hn⟩ := h.ex; ⟨cs, hb.later hl, hn⟩
theorem set2_0 {cs : Array Value} (h : cs.size = 2) (a b : Value) : ((cs.setIfInBounds 0 a).setIfInBounds 1 b)[0]? = some a := by rw [set_ne _ (by omega), set_eq _ (by omega)]
theorem set2_1 {cs : Array Value} (h : cs.size = 2) (a b : Value) : ((cs.setIfInBounds 0 a).setIfInBounds 1 b)[1]? = some b := by rw [set_eq _ (by simp; omega)]
end
end Go.Proofs.YtknhebakebmlcaaGreat
namespace Go.Proofs.YtknhebakebmlcaaGreat
open Go Go.RowKit
set_option linter.unusedVariables false
set_option maxRecDepth 100000
theorem field_Trip2 (a b c : Int) (w : World) : (Instr.field 82 (.agg #[.int .i64 a, .int .i64 b, .int .i64 c]) 2).run Tryz.prog w = .ok (.int .i64 c) w := by kernel_rfl
set_option maxHeartbeats 800000 in
theorem impl_spanOf {w0 w : World} {sA0 : Option Addr} {sn0 sc0 : Nat} {sA1 : Option Addr} {sn1 sc1 : Nat} {sA2 : Option Addr} {sn2 sc2 : Nat} {t : Timetable} (h : TimetableAt w0 sA0 sn0 sc0 sA1 sn1 sc1 sA2 sn2 sc2 t) (hl : Later w0 w) {w3 : World} (tf : TimeFacts t) {pA : Option Addr} {pn pc : Nat} {p : List Int} (h3 : Ints w3 pA pn pc p) (hl3 : Later w3 w) (hpos : 0 < p.length) (hfo : FoundAll t p) :
  Calls Tryz.prog 118 #[.agg #[.slice sA0 sn0 sc0, .slice sA1 sn1 sc1, .slice sA2 sn2 sc2], .slice pA pn pc] w (Ret (.agg #[.int .i64 (begP t p), .int .i64 (finP t p)]) w) := by
 obtain ⟨wx, hwx⟩ : ∃ wx : World, wx = ((w.alloc (.cells #[.slice sA0 sn0 sc0, .slice sA1 sn1 sc1, .slice sA2 sn2 sc2] 44)).alloc (.cells #[.int .i64 0, .int .i64 0] 155)) := ⟨_, rfl⟩
 have HBX : Blk wx (w.heap.size + 1) 155 #[.int .i64 0, .int .i64 0] := by rw [hwx]; exact heap_new (by simp)
 have hP := h3.later hl3
 have HB0 : ∀ W [Later (w.alloc (.cells #[.slice sA0 sn0 sc0, .slice sA1 sn1 sc1, .slice sA2 sn2 sc2] 44)) W] (j : Nat), W.cell? ⟨w.heap.size, j, none⟩ = #[.slice sA0 sn0 sc0, .slice sA1 sn1 sc1, .slice sA2 sn2 sc2][j]? := Later.boxes (t := 44) (fr := (0, 0)) (heap_new (by simp; try omega)); obtain ⟨wb, hwb⟩ : ∃ wb : World, wb = (w.alloc (.cells #[.slice sA0 sn0 sc0, .slice sA1 sn1 sc1, .slice sA2 sn2 sc2] 44)) := ⟨_, rfl⟩; haveI hbW : Later wb (w.alloc (.cells #[.slice sA0 sn0 sc0, .slice sA1 sn1 sc1, .slice sA2 sn2 sc2] 44)) := (by rw [hwb]; exact Later.rfl_); haveI hww : Later w wb := (by rw [hwb]; infer_instance); rw [← hwb] at HB0; have hbE := Lib.hid (congrArg (fun x : World => x.heap.size) hwb); clear hwb
 have hwb0 := hl.trans hww
 have H := Lib.hid h
 clear h
 replace hP := hP.later hww
 have hpl := hP.le
 haveI hxW : Later wx ((w.alloc (.cells #[.slice sA0 sn0 sc0, .slice sA1 sn1 sc1, .slice sA2 sn2 sc2] 44)).alloc (.cells #[.int .i64 0, .int .i64 0] 155)) := by rw [hwx]; exact Later.rfl_
 haveI hbx : Later wb wx := by rw [hwx]; infer_instance
 haveI hOB : OwnB ((w.alloc (.cells #[.slice sA0 sn0 sc0, .slice sA1 sn1 sc1, .slice sA2 sn2 sc2] 44)).alloc (.cells #[.int .i64 0, .int .i64 0] 155)) (w.heap.size + 1) 155 2 := .of (by rw [← hwx]; exact HBX) rfl
 have hzb : wb.heap.size ≤ w.heap.size + 1 := by have := hbE.out; simp at this; omega
 haveI hN : New wb (w.heap.size + 1) := ⟨hzb⟩
 have Hlen := Lib.hid hP.len
 obtain ⟨m, rfl⟩ : ∃ m : Nat, pn = m + 1 := ⟨pn - 1, by have := Hlen.out; omega⟩
 obtain ⟨b1, o1, v, rfl, hv, hcv, _⟩ := Ints.at_ hP (show 0 < m + 1 by omega)
 obtain ⟨b2, o2, u, hA2, hu, hcu, _⟩ := Ints.at_ hP (show m < m + 1 by omega)
 cases hA2
 simp only [Nat.add_zero] at hcv
 have e1 := headI_of hv.out
 have e2 := lastI_of Hlen.out hu.out
 have fv := hfo v (List.mem_of_getElem? hv.out)
 have fu := hfo u (List.mem_of_getElem? hu.out)
 have TV := Lib.hid (tripI_facts tf fv (findI_bd t v).2)
 have TU := Lib.hid (tripI_facts tf fu (findI_bd t u).2)
 have HE1 : Hid (begP t p = (tripI t (findI t v)).Start) := by show _ = _; unfold begP; rw [e1]
 have HE2 : Hid (finP t p = endAt t (tripI t (findI t u))) := by show _ = _; unfold finP; rw [e2]
 have FV := Lib.hid fv
 have FU := Lib.hid fu
 have NF := Lib.hid tf.net
 obtain ⟨x, hx⟩ : ∃ x : Trip, tripI t (findI t v) = x := ⟨_, rfl⟩
 obtain ⟨y, hy⟩ : ∃ y : Trip, tripI t (findI t u) = y := ⟨_, rfl⟩
 rw [hx] at TV HE1
 rw [hy] at TU HE2
 have HX := Lib.hid hx
 have HY := Lib.hid hy
 rw [HE1.out, HE2.out]
 have hwm : IntKind.i64.wrap (((m + 1 : Nat) : Int) - 1) = (m : Int) := by rw [IntKind.wrap_i64]; omega
 have hwm2 : IntKind.i64.wrap ((m : Int) + 1 - 1) = (m : Int) := by rw [IntKind.wrap_i64]; omega
 have hwm3 : IntKind.i64.wrap (m : Int) = (m : Int) := by rw [IntKind.wrap_i64]; omega
 have hm0 : (0 : Int) < ((m + 1 : Nat) : Int) := by omega
 have hm1 : (m : Int) < (m : Int) + 1 := by omega
 have hm2 : (0 : Int) < (m : Int) + 1 := by omega
 have hft := field_Trip2
 clear h3 hP hpos hfo hv hu e1 e2 fv fu hx hy hwx tf
 go_enter Tryz.func118, Tryz.ntmps118
 go_wp2_with fail
 go_region_held3 (fun w' => Later wb w' ∧ OwnB w' (w.heap.size + 1) 155 2) (exact ⟨inferInstance, inferInstance⟩) (first
  | ((with_reducible refine (impl_tripWith H.out (hwb0.trans inferInstance) v FV.out x HX.out).mono ?_); rintro e w4 ⟨rfl, L4⟩; have X4 := Later.trans (w := wb) inferInstance L4; haveI O4 : OwnB w4 (w.heap.size + 1) 155 2 := OwnB.later inferInstance L4; obtain ⟨cs, hB, hcs⟩ := O4.ex; have Hcs := Lib.hid hcs; obtain ⟨q0, hq0⟩ := hB.get (i := 0) (by omega); obtain ⟨q1, hq1⟩ := hB.get (i := 1) (by omega); have hf0 := hB.frozen 0; have hf1 := hB.frozen 1; clear hcs)
  | ((with_reducible refine (impl_tripWith H.out (hwb0.trans inferInstance) u FU.out y HY.out).mono ?_); rintro e w5 ⟨rfl, L5⟩; have X5 := Later.trans (w := wb) inferInstance L5; haveI O5 : OwnB w5 (w.heap.size + 1) 155 2 := OwnB.later inferInstance L5; obtain ⟨cs, hB, hcs⟩ := O5.ex; have Hcs := Lib.hid hcs; obtain ⟨q0, hq0⟩ := hB.get (i := 0) (by omega); obtain ⟨q1, hq1⟩ := hB.get (i := 1) (by omega); have hf0 := hB.frozen 0; have hf1 := hB.frozen 1; clear hcs)
  | (go_at_call 136; refine (impl_endOf H.out (hwb0.trans inferInstance) NF.out y TU.out.line0 TU.out.line1 TU.out.start.1 TU.out.start.2).mono ?_; rintro e w6 ⟨rfl, L6⟩; have X6 := Later.trans (w := wb) inferInstance L6; haveI O6 : OwnB w6 (w.heap.size + 1) 155 2 := OwnB.later inferInstance L6; obtain ⟨cs, hB, hcs⟩ := O6.ex; have Hcs := Lib.hid hcs; obtain ⟨q0, hq0⟩ := hB.get (i := 0) (by omega); obtain ⟨q1, hq1⟩ := hB.get (i := 1) (by omega); have hf0 := hB.frozen 0; have hf1 := hB.frozen 1; clear hcs))
 go_wp2
 have HF := (hB.set_ 0 (.int .i64 x.Start)).set_ 1 (.int .i64 (endAt t y))
 have hr0 := (HF.cell 0).trans (set2_0 Hcs.out _ _)
 have hr1 := (HF.cell 1).trans (set2_1 Hcs.out _ _)
 refine bodyPost_ret (v := .agg #[.int .i64 x.Start, .int .i64 (endAt t y)]) (by simp [results, Tryz.results118, go_sem, hr0, hr1]) rfl ?_
 exact ⟨rfl, hww.trans inferInstance⟩
end Go.Proofs.YtknhebakebmlcaaGreat
namespace Go.Proofs.YtknhebakebmlcaaGreat
open Go Go.RowKit
set_option linter.unusedVariables false
set_option maxRecDepth 100000
theorem field_Span0 (a b : Int) (w : World) : (Instr.field 155 (.agg #[.int .i64 a, .int .i64 b]) 0).run Tryz.prog w = .ok (.int .i64 a) w := by kernel_rfl
theorem field_Span1 (a b : Int) (w : World) : (Instr.field 155 (.agg #[.int .i64 a, .int .i64 b]) 1).run Tryz.prog w = .ok (.int .i64 b) w := by kernel_rfl
set_option maxHeartbeats 4000000 in
theorem impl_gapsIn {w0 w w2 w3 : World} {sA0 : Option Addr} {sn0 sc0 : Nat} {sA1 : Option Addr} {sn1 sc1 : Nat} {sA2 : Option Addr} {sn2 sc2 : Nat} {t : Timetable} (h : TimetableAt w0 sA0 sn0 sc0 sA1 sn1 sc1 sA2 sn2 sc2 t) (hl : Later w0 w) {qA0 : Option Addr} {qn0 qc0 : Nat} {f : Fleet} (h2 : FleetAt w2 qA0 qn0 qc0 f) (hl2 : Later w2 w) {bA : Option Addr} {bn bc : Nat} {ps : List (List Int)} (h3 : Sl 1 (rSl 1 rInt) w3 bA bn bc ps) (hl3 : Later w3 w) (rf : RunFacts t f) (bf : BrkFacts t ps) :
  Calls Tryz.prog 119 #[.agg #[.slice sA0 sn0 sc0, .slice sA1 sn1 sc1, .slice sA2 sn2 sc2], .agg #[.slice qA0 qn0 qc0, .int .i64 f.Turn], .slice bA bn bc] w (RetO 1 oInt (gapsP t f ps) w) := by
 have hB := h3.later hl3
 have HB0 : ∀ W [Later ((w.alloc (.cells #[.slice sA0 sn0 sc0, .slice sA1 sn1 sc1, .slice sA2 sn2 sc2] 44)).alloc (.cells #[.slice qA0 qn0 qc0, .int .i64 f.Turn] 46)) W] (j : Nat), W.cell? ⟨w.heap.size, j, none⟩ = #[.slice sA0 sn0 sc0, .slice sA1 sn1 sc1, .slice sA2 sn2 sc2][j]? := Later.boxes (t := 44) (fr := (0, 0)) ((heap_old (by simp; try omega)).trans (heap_new (by simp; try omega))); have HB1 : ∀ W [Later ((w.alloc (.cells #[.slice sA0 sn0 sc0, .slice sA1 sn1 sc1, .slice sA2 sn2 sc2] 44)).alloc (.cells #[.slice qA0 qn0 qc0, .int .i64 f.Turn] 46)) W] (j : Nat), W.cell? ⟨w.heap.size + 1, j, none⟩ = #[.slice qA0 qn0 qc0, .int .i64 f.Turn][j]? := Later.boxes (t := 46) (fr := (0, 0)) (heap_new (by simp; try omega)); obtain ⟨wb, hwb⟩ : ∃ wb : World, wb = ((w.alloc (.cells #[.slice sA0 sn0 sc0, .slice sA1 sn1 sc1, .slice sA2 sn2 sc2] 44)).alloc (.cells #[.slice qA0 qn0 qc0, .int .i64 f.Turn] 46)) := ⟨_, rfl⟩; haveI hbW : Later wb ((w.alloc (.cells #[.slice sA0 sn0 sc0, .slice sA1 sn1 sc1, .slice sA2 sn2 sc2] 44)).alloc (.cells #[.slice qA0 qn0 qc0, .int .i64 f.Turn] 46)) := (by rw [hwb]; exact Later.rfl_); haveI hww : Later w wb := (by rw [hwb]; infer_instance); rw [← hwb] at HB0; rw [← hwb] at HB1; have hbE := Lib.hid (congrArg (fun x : World => x.heap.size) hwb); clear hwb
 have hwb0 := hl.trans hww
 have hwb2 := hl2.trans hww
 have hwb3 := hl3.trans hww
 have H := Lib.hid h
 have H2 := Lib.hid h2
 have H3 := Lib.hid h3
 clear h h2 h3
 replace hB := hB.later hww
 have hbl := hB.le
 have Hbl := Lib.hid hB.len
 have hb0 := bf.pos
 have hb3 := bf.max
 have hbn : 0 < bn := by rw [hB.len]; exact hb0
 have hbn3 : bn ≤ 3 := by rw [hB.len]; exact hb3
 have BF := Lib.hid bf
 have RF := Lib.hid rf
 have NF := Lib.hid rf.time.net
 have FF := Lib.hid rf.fleet
 have hbs : wb.heap.size ≤ w.heap.size + 2 := by have := hbE.out; simp at this; omega
 have hbs2 : w.heap.size + 2 ≤ wb.heap.size := by have := hbE.out; simp at this; omega
 have hf0 := field_Span0
 have hf1 := field_Span1
 clear bf rf hb0 hb3
 go_enter Tryz.func119, Tryz.ntmps119
 go_wp2_with fail
 go_loopw [7, 8] (fun ov i wr => ∃ (j m : Nat), j = m + 1 ∧ m < bn ∧ i = .int .i64 j ∧ Hid (wr.ownsRow (w.heap.size + 2) 3 1 ov (gapsP t f (ps.take j)).length ((gapsP t f (ps.take j)).map (Value.int .i64))) ∧ Later wb wr) (fun _ i _ => bn - (intOf i).toNat)
 case atStart => exact ⟨1, 0, rfl, by omega, rfl, by rw [gapsP_one]; exact Lib.hid ⟨rfl, .inl ⟨rfl, rfl⟩⟩, inferInstance⟩
 case round =>
  obtain ⟨j, m, hjm, hm, rfl, hown, hX⟩ := hrel
  by_cases hjt : j < bn
  ·obtain ⟨b, o, A1, n1, c1, x, rfl, hx, hc0, hi⟩ := Sl.row_ hB hm
   obtain ⟨b', o', A2, n2, c2, y, hA', hy, hc0', hi'⟩ := Sl.row_ hB hjt
   cases hA'
   have hxf := BF.out.at_ hx.out
   have hyf := BF.out.at_ hy.out
   have hn1 : 0 < n1 := by rw [hi.len]; exact hxf.1
   have hn2 : 0 < n2 := by rw [hi'.len]; exact hyf.1
   have hn1m := hi.le
   have hn2m := hi'.le
   have HI := Lib.hid hi
   have HI' := Lib.hid hi'
   have HXP := Lib.hid hxf.1
   have HYP := Lib.hid hyf.1
   have HXF := Lib.hid hxf.2
   have HYF := Lib.hid hyf.2
   obtain ⟨m1, rfl⟩ : ∃ m1 : Nat, n1 = m1 + 1 := ⟨n1 - 1, by omega⟩
   obtain ⟨b4, o4, u, rfl, hu, hcu, _⟩ := Ints.at_ hi (show m1 < m1 + 1 by omega)
   obtain ⟨b5, o5, v, rfl, hv, hcv, _⟩ := Ints.at_ hi' hn2
   simp only [Nat.add_zero] at hcv
   have e1 : lastI x = u := lastI_of hi.len hu.out
   have e2 : headI y = v := headI_of hv.out
   have fu := hxf.2 u (List.mem_of_getElem? hu.out)
   have fv := hyf.2 v (List.mem_of_getElem? hv.out)
   have TU := Lib.hid (tripI_facts RF.out.time fu (findI_bd t u).2)
   have TV := Lib.hid (tripI_facts RF.out.time fv (findI_bd t v).2)
   have FU := Lib.hid fu
   have FV := Lib.hid fv
   have q1 := begP_bd RF.out.time hyf.1 hyf.2
   have q2 := finP_bd RF.out.time hxf.1 hxf.2
   have q3 := pairDead_bd RF.out fu fv
   have hg : begP t y - finP t x - pairDead t f u v = gapP t f x y := by unfold gapP; rw [e1, e2]
   have hw1 : IntKind.i64.wrap (begP t y - finP t x) = begP t y - finP t x := by rw [IntKind.wrap_i64]; omega
   have hw2 : IntKind.i64.wrap (begP t y - finP t x - pairDead t f u v) = gapP t f x y := by rw [IntKind.wrap_i64, hg]; omega
   have hwm : IntKind.i64.wrap ((j : Int) - 1) = (m : Int) := by rw [IntKind.wrap_i64]; omega
   have hjt' : (j : Int) < bn := by omega
   have hm' : (m : Int) < bn := by omega
   have hwl : IntKind.i64.wrap (((m1 + 1 : Nat) : Int) - 1) = (m1 : Int) := by rw [IntKind.wrap_i64]; omega
   have hwl2 : IntKind.i64.wrap ((m1 : Int) + 1 - 1) = (m1 : Int) := by rw [IntKind.wrap_i64]; omega
   have hwl3 : IntKind.i64.wrap (m1 : Int) = (m1 : Int) := by rw [IntKind.wrap_i64]; omega
   have hl0 : (m1 : Int) < (m1 : Int) + 1 := by omega
   have hl1 : (0 : Int) < (n2 : Int) := by omega
   have HT : Hid (gapsP t f (ps.take (j + 1)) = gapsP t f (ps.take j) ++ [gapP t f x y]) := by show _ = _; subst hjm; exact gapsP_take hx.out hy.out
   have Hjm := Lib.hid hjm
   have Hal : (gapsP t f (ps.take j)).length ≤ 3 := by rw [gapsP_len, List.length_take]; omega
   clear hx hy hxf hyf hi hi' hu hv e1 e2 fu fv q1 q2 q3 hg hjm
   go_wp2_with fail
   go_quiet (fail)
   go_wp2_with fail
   go_region_held3 (fun w' => Later wb w') (exact inferInstance) (first
    | ((with_reducible refine (impl_spanOf H.out (hwb0.trans inferInstance) RF.out.time HI'.out inferInstance HYP.out HYF.out).mono ?_); rintro e w4 ⟨rfl, L4⟩; have X4 := Later.trans (w := wb) inferInstance L4; have Z4 := Later.trans (w := wr) inferInstance L4)
    | ((with_reducible refine (impl_spanOf H.out (hwb0.trans inferInstance) RF.out.time HI.out inferInstance HXP.out HXF.out).mono ?_); rintro e w5 ⟨rfl, L5⟩; have X5 := Later.trans (w := wb) inferInstance L5; have Z5 := Later.trans (w := wr) inferInstance L5)
    | ((with_reducible refine (impl_tripWith H.out (hwb0.trans inferInstance) u FU.out _ rfl).mono ?_); rintro e w6 ⟨rfl, L6⟩; have X6 := Later.trans (w := wb) inferInstance L6; have Z6 := Later.trans (w := wr) inferInstance L6)
    | ((with_reducible refine (impl_tripWith H.out (hwb0.trans inferInstance) v FV.out _ rfl).mono ?_); rintro e w7 ⟨rfl, L7⟩; have X7 := Later.trans (w := wb) inferInstance L7; have Z7 := Later.trans (w := wr) inferInstance L7)
    | (go_at_call 137; refine (impl_deadBetween H.out (hwb0.trans inferInstance) H2.out (hwb2.trans inferInstance) NF.out FF.out _ _ TU.out.in_ TV.out.in_).mono ?_; change ∀ _ _, Ret (.int .i64 (pairDead t f u v)) _ _ _ → _; rintro e w8 ⟨rfl, L8⟩; have X8 := Later.trans (w := wb) inferInstance L8; have Z8 := Later.trans (w := wr) inferInstance L8)
    | (rw [if_pos (by rfl)]; refine wp_app_B _ _ 66 rfl Tryz.underlying66 infoInt rfl (by decide) (by decide) rfl (by exact ownsRow_later hown.out (inferInstance : Later wr _)) (inferInstance : Later wb _) hbs (Nat.le_trans hbs2 (Later.size (w := wb) inferInstance)) rfl rfl (one_cell _ _) (by omega) ?_; intro v' w9 hown' hX9))
   clear hw1 hw2
   go_wp2
   go_roundw
   case rel => exact ⟨j + 1, j, rfl, hjt, by go_num, by show World.ownsRow _ _ _ _ _ _ _; rw [HT.out, List.map_append, List.length_append]; exact hown', inferInstance⟩
   case measure => simp [intOf]; omega
  ·have hjt' : ¬ ((j : Int) < bn) := by omega
   have HE : Hid (gapsP t f (ps.take j) = gapsP t f ps) := by show _ = _; rw [List.take_of_length_le (by have := Hbl.out; omega)]
   rw [HE.out] at hown
   clear HE
   go_wp2
   go_ret
   obtain ⟨A, c, fp, rfl, ho, hnd, hlo⟩ := OSl.ints_of_own hown.out (fun y hy => by have := gapsP_mem RF.out BF.out y hy; unfold I64; omega)
   exact ⟨A, _, c, fp, rfl, ho, hnd, fun g hg => by have := hlo g hg; omega, hww.trans inferInstance⟩
set_option maxHeartbeats 1000000 in
theorem impl_lengthOf {w0 w : World} {sA0 : Option Addr} {sn0 sc0 : Nat} {sA1 : Option Addr} {sn1 sc1 : Nat} {sA2 : Option Addr} {sn2 sc2 : Nat} {t : Timetable} (h : TimetableAt w0 sA0 sn0 sc0 sA1 sn1 sc1 sA2 sn2 sc2 t) (hl : Later w0 w) {r : Rules} {eA0 : Option Addr} {en0 ec0 : Nat} {d : Duty} {w3 : World} (h3 : DutyAt w3 eA0 en0 ec0 d) (hl3 : Later w3 w) (tf : TimeFacts t) (rf : RulesFacts r) (bf : BrkFacts t d.Pieces) :
  Calls Tryz.prog 120 #[.agg #[.slice sA0 sn0 sc0, .slice sA1 sn1 sc1, .slice sA2 sn2 sc2], .agg #[.int .i64 r.SignOn, .int .i64 r.SignOff, .int .i64 r.MaxDrive, .int .i64 r.MinBreak, .int .i64 r.PaidBreak, .int .i64 r.MaxLength], .agg #[.slice eA0 en0 ec0]] w (Ret (.int .i64 (lenD t r d.Pieces)) w) := by
 have hB := h3.l_Pieces.later hl3
 have HB0 : ∀ W [Later (((w.alloc (.cells #[.slice sA0 sn0 sc0, .slice sA1 sn1 sc1, .slice sA2 sn2 sc2] 44)).alloc (.cells #[.int .i64 r.SignOn, .int .i64 r.SignOff, .int .i64 r.MaxDrive, .int .i64 r.MinBreak, .int .i64 r.PaidBreak, .int .i64 r.MaxLength] 49)).alloc (.cells #[.slice eA0 en0 ec0] 76)) W] (j : Nat), W.cell? ⟨w.heap.size, j, none⟩ = #[.slice sA0 sn0 sc0, .slice sA1 sn1 sc1, .slice sA2 sn2 sc2][j]? := Later.boxes (t := 44) (fr := (0, 0)) ((heap_old (by simp; try omega)).trans ((heap_old (by simp; try omega)).trans (heap_new (by simp; try omega)))); have HB1 : ∀ W [Later (((w.alloc (.cells #[.slice sA0 sn0 sc0, .slice sA1 sn1 sc1, .slice sA2 sn2 sc2] 44)).alloc (.cells #[.int .i64 r.SignOn, .int .i64 r.SignOff, .int .i64 r.MaxDrive, .int .i64 r.MinBreak, .int .i64 r.PaidBreak, .int .i64 r.MaxLength] 49)).alloc (.cells #[.slice eA0 en0 ec0] 76)) W] (j : Nat), W.cell? ⟨w.heap.size + 1, j, none⟩ = #[.int .i64 r.SignOn, .int .i64 r.SignOff, .int .i64 r.MaxDrive, .int .i64 r.MinBreak, .int .i64 r.PaidBreak, .int .i64 r.MaxLength][j]? := Later.boxes (t := 49) (fr := (0, 0)) ((heap_old (by simp; try omega)).trans (heap_new (by simp; try omega))); have HB2 : ∀ W [Later (((w.alloc (.cells #[.slice sA0 sn0 sc0, .slice sA1 sn1 sc1, .slice sA2 sn2 sc2] 44)).alloc (.cells #[.int .i64 r.SignOn, .int .i64 r.SignOff, .int .i64 r.MaxDrive, .int .i64 r.MinBreak, .int .i64 r.PaidBreak, .int .i64 r.MaxLength] 49)).alloc (.cells #[.slice eA0 en0 ec0] 76)) W] (j : Nat), W.cell? ⟨w.heap.size + 1 + 1, j, none⟩ = #[.slice eA0 en0 ec0][j]? := Later.boxes (t := 76) (fr := (0, 0)) (heap_new (by simp; try omega)); obtain ⟨wb, hwb⟩ : ∃ wb : World, wb = (((w.alloc (.cells #[.slice sA0 sn0 sc0, .slice sA1 sn1 sc1, .slice sA2 sn2 sc2] 44)).alloc (.cells #[.int .i64 r.SignOn, .int .i64 r.SignOff, .int .i64 r.MaxDrive, .int .i64 r.MinBreak, .int .i64 r.PaidBreak, .int .i64 r.MaxLength] 49)).alloc (.cells #[.slice eA0 en0 ec0] 76)) := ⟨_, rfl⟩; haveI hbW : Later wb (((w.alloc (.cells #[.slice sA0 sn0 sc0, .slice sA1 sn1 sc1, .slice sA2 sn2 sc2] 44)).alloc (.cells #[.int .i64 r.SignOn, .int .i64 r.SignOff, .int .i64 r.MaxDrive, .int .i64 r.MinBreak, .int .i64 r.PaidBreak, .int .i64 r.MaxLength] 49)).alloc (.cells #[.slice eA0 en0 ec0] 76)) := (by rw [hwb]; exact Later.rfl_); haveI hww : Later w wb := (by rw [hwb]; infer_instance); rw [← hwb] at HB0; rw [← hwb] at HB1; rw [← hwb] at HB2; have hbE := Lib.hid (congrArg (fun x : World => x.heap.size) hwb); clear hwb
 have hwb0 := hl.trans hww
 have H := Lib.hid h
 replace hB := hB.later hww
 have hbl := hB.le
 have hen : en0 = d.Pieces.length := hB.len
 have hb0 := bf.pos
 obtain ⟨m, rfl⟩ : ∃ m : Nat, en0 = m + 1 := ⟨en0 - 1, by omega⟩
 obtain ⟨b, o, A1, n1, c1, x, rfl, hx, hc0, hi⟩ := Sl.row_ hB (show 0 < m + 1 by omega)
 obtain ⟨b', o', A2, n2, c2, z, hA', hz, hc0', hi'⟩ := Sl.row_ hB (show m < m + 1 by omega)
 cases hA'
 simp only [Nat.add_zero] at hc0
 have hxf := bf.at_ hx.out
 have hzf := bf.at_ hz.out
 have q1 := begP_bd tf hxf.1 hxf.2
 have q2 := finP_bd tf hzf.1 hzf.2
 have q3 := rf.on
 have q4 := rf.off
 have HE : Hid (lenD t r d.Pieces = r.SignOn + finP t z - begP t x + r.SignOff) := by show _ = _; unfold lenD; rw [lastP_of hen hz.out, headP_of hx.out]
 have hw1 : IntKind.i64.wrap (r.SignOn + finP t z) = r.SignOn + finP t z := by rw [IntKind.wrap_i64]; omega
 have hw2 : IntKind.i64.wrap (r.SignOn + finP t z - begP t x) = r.SignOn + finP t z - begP t x := by rw [IntKind.wrap_i64]; omega
 have hw3 : IntKind.i64.wrap (r.SignOn + finP t z - begP t x + r.SignOff) = r.SignOn + finP t z - begP t x + r.SignOff := by rw [IntKind.wrap_i64]; omega
 have hwm : IntKind.i64.wrap (((m + 1 : Nat) : Int) - 1) = (m : Int) := by rw [IntKind.wrap_i64]; omega
 have hwm2 : IntKind.i64.wrap ((m : Int) + 1 - 1) = (m : Int) := by rw [IntKind.wrap_i64]; omega
 have hwm3 : IntKind.i64.wrap (m : Int) = (m : Int) := by rw [IntKind.wrap_i64]; omega
 have hm1 : (m : Int) < (m : Int) + 1 := by omega
 have hm2 : (0 : Int) < (m : Int) + 1 := by omega
 have HI := Lib.hid hi
 have HI' := Lib.hid hi'
 have HXP := Lib.hid hxf.1
 have HZP := Lib.hid hzf.1
 have HXF := Lib.hid hxf.2
 have HZF := Lib.hid hzf.2
 have TF := Lib.hid tf
 have hf0 := field_Span0
 have hf1 := field_Span1
 clear h h3 hB hi hi' hx hz hxf hzf q1 q2 q3 q4 tf rf bf hen hb0
 go_enter Tryz.func120, Tryz.ntmps120
 go_wp2_with fail
 go_region_held3 (fun w' => Later wb w') (exact inferInstance) (first
  | ((with_reducible refine (impl_spanOf H.out (hwb0.trans inferInstance) TF.out HI.out inferInstance HXP.out HXF.out).mono ?_); rintro e w4 ⟨rfl, L4⟩; have X4 := Later.trans (w := wb) inferInstance L4)
  | ((with_reducible refine (impl_spanOf H.out (hwb0.trans inferInstance) TF.out HI'.out inferInstance HZP.out HZF.out).mono ?_); rintro e w5 ⟨rfl, L5⟩; have X5 := Later.trans (w := wb) inferInstance L5))
 clear hw1 hw2 hw3 hwm hwm2 hwm3
 go_wp2
 go_ret
 exact ⟨ret_int HE.out.symm, hww.trans inferInstance⟩
set_option maxHeartbeats 400000 in
theorem spec_l12Start {w0 w : World} {sA0 : Option Addr} {sn0 sc0 : Nat} {sA1 : Option Addr} {sn1 sc1 : Nat} {sA2 : Option Addr} {sn2 sc2 : Nat} {t : Timetable} (h : TimetableAt w0 sA0 sn0 sc0 sA1 sn1 sc1 sA2 sn2 sc2 t) (hl : Later w0 w) {w3 : World} (tf : TimeFacts t) {pA : Option Addr} {pn pc : Nat} {p : List Int} (h3 : Ints w3 pA pn pc p) (hl3 : Later w3 w) (hpos : 0 < p.length) (hfo : FoundAll t p) :
  Calls Tryz.prog 130 #[.agg #[.slice sA0 sn0 sc0, .slice sA1 sn1 sc1, .slice sA2 sn2 sc2], .slice pA pn pc] w (Ret (.int .i64 (begP t p)) w) := by
 have hP := h3.later hl3
 have hT := h.l_Trips
 have hsl := hT.le
 have hnT := hT.len
 have HB0 : ∀ W [Later (w.alloc (.cells #[.slice sA0 sn0 sc0, .slice sA1 sn1 sc1, .slice sA2 sn2 sc2] 44)) W] (j : Nat), W.cell? ⟨w.heap.size, j, none⟩ = #[.slice sA0 sn0 sc0, .slice sA1 sn1 sc1, .slice sA2 sn2 sc2][j]? := Later.boxes (t := 44) (fr := (0, 0)) (heap_new (by simp; try omega)); obtain ⟨wb, hwb⟩ : ∃ wb : World, wb = (w.alloc (.cells #[.slice sA0 sn0 sc0, .slice sA1 sn1 sc1, .slice sA2 sn2 sc2] 44)) := ⟨_, rfl⟩; haveI hbW : Later wb (w.alloc (.cells #[.slice sA0 sn0 sc0, .slice sA1 sn1 sc1, .slice sA2 sn2 sc2] 44)) := (by rw [hwb]; exact Later.rfl_); haveI hww : Later w wb := (by rw [hwb]; infer_instance); rw [← hwb] at HB0; have hbE := Lib.hid (congrArg (fun x : World => x.heap.size) hwb); clear hwb
 have hwb0 := hl.trans hww
 have H := Lib.hid h
 clear h
 replace hP := hP.later hww
 have hpn : 0 < pn := by rw [hP.len]; exact hpos
 have hpn' : (0 : Int) < (pn : Int) := by omega
 have hpl := hP.le
 obtain ⟨b1, o1, v, rfl, hv, hcv, _⟩ := Ints.at_ hP hpn
 simp only [Nat.add_zero] at hcv
 have e1 := headI_of hv.out
 have fv := hfo v (List.mem_of_getElem? hv.out)
 obtain ⟨j, hj⟩ := Int.eq_ofNat_of_zero_le fv
 have hjn : j < sn2 := by rw [hnT]; have := (findI_bd t v).2; omega
 have hjn' : (j : Int) < (sn2 : Int) := by omega
 obtain ⟨b5, o5, y, rfl, hy, hc0, hc1, hc2, _⟩ := Trips.at_ hT hjn
 replace hc2 := shift hwb0 hc2
 have HE : Hid (begP t p = y.Start) := by show _ = _; unfold begP; rw [e1, hj, tripI_of hy.out]
 have HJ := Lib.hid hj
 clear h3 hP hT hpos hfo hv e1 fv hj hy hc0 hc1 tf hnT
 go_enter Tryz.func130, Tryz.ntmps130
 go_wp2_with fail
 go_region_held3 (fun w' => Later wb w') (exact inferInstance) (first
  | (go_at_call 28; refine (spec_l5Find H.out (hwb0.trans inferInstance) v).mono ?_; rw [HJ.out]; rintro e w4 ⟨rfl, L4⟩; have X4 := Later.trans (w := wb) inferInstance L4))
 go_wp2
 go_ret
 exact ⟨ret_int HE.out.symm, hww.trans inferInstance⟩
set_option maxHeartbeats 400000 in
theorem spec_l12End {w0 w : World} {sA0 : Option Addr} {sn0 sc0 : Nat} {sA1 : Option Addr} {sn1 sc1 : Nat} {sA2 : Option Addr} {sn2 sc2 : Nat} {t : Timetable} (h : TimetableAt w0 sA0 sn0 sc0 sA1 sn1 sc1 sA2 sn2 sc2 t) (hl : Later w0 w) {w3 : World} (tf : TimeFacts t) {pA : Option Addr} {pn pc : Nat} {p : List Int} (h3 : Ints w3 pA pn pc p) (hl3 : Later w3 w) (hpos : 0 < p.length) (hfo : FoundAll t p) :
  Calls Tryz.prog 129 #[.agg #[.slice sA0 sn0 sc0, .slice sA1 sn1 sc1, .slice sA2 sn2 sc2], .slice pA pn pc] w (Ret (.int .i64 (finP t p)) w) := by
 have hP := h3.later hl3
 have HB0 : ∀ W [Later (w.alloc (.cells #[.slice sA0 sn0 sc0, .slice sA1 sn1 sc1, .slice sA2 sn2 sc2] 44)) W] (j : Nat), W.cell? ⟨w.heap.size, j, none⟩ = #[.slice sA0 sn0 sc0, .slice sA1 sn1 sc1, .slice sA2 sn2 sc2][j]? := Later.boxes (t := 44) (fr := (0, 0)) (heap_new (by simp; try omega)); obtain ⟨wb, hwb⟩ : ∃ wb : World, wb = (w.alloc (.cells #[.slice sA0 sn0 sc0, .slice sA1 sn1 sc1, .slice sA2 sn2 sc2] 44)) := ⟨_, rfl⟩; haveI hbW : Later wb (w.alloc (.cells #[.slice sA0 sn0 sc0, .slice sA1 sn1 sc1, .slice sA2 sn2 sc2] 44)) := (by rw [hwb]; exact Later.rfl_); haveI hww : Later w wb := (by rw [hwb]; infer_instance); rw [← hwb] at HB0; have hbE := Lib.hid (congrArg (fun x : World => x.heap.size) hwb); clear hwb
 have hwb0 := hl.trans hww
 have H := Lib.hid h
 clear h
 replace hP := hP.later hww
 have hpl := hP.le
 have Hlen := Lib.hid hP.len
 obtain ⟨m, rfl⟩ : ∃ m : Nat, pn = m + 1 := ⟨pn - 1, by have := Hlen.out; omega⟩
 obtain ⟨b1, o1, u, rfl, hu, hcu, _⟩ := Ints.at_ hP (show m < m + 1 by omega)
 have e2 := lastI_of Hlen.out hu.out
 have fu := hfo u (List.mem_of_getElem? hu.out)
 have TU := Lib.hid (tripI_facts tf fu (findI_bd t u).2)
 have FU : Hid (0 ≤ findI t u ∧ findI t u < t.Trips.length) := ⟨fu, (findI_bd t u).2⟩
 have HE : Hid (finP t p = endAt t (tripI t (findI t u))) := by show _ = _; unfold finP; rw [e2]
 have NF := Lib.hid tf.net
 have hwm : IntKind.i64.wrap (((m + 1 : Nat) : Int) - 1) = (m : Int) := by rw [IntKind.wrap_i64]; omega
 have hwm2 : IntKind.i64.wrap ((m : Int) + 1 - 1) = (m : Int) := by rw [IntKind.wrap_i64]; omega
 have hwm3 : IntKind.i64.wrap (m : Int) = (m : Int) := by rw [IntKind.wrap_i64]; omega
 have hm1 : (m : Int) < (m : Int) + 1 := by omega
 clear h3 hP hpos hfo hu e2 fu tf
 go_enter Tryz.func129, Tryz.ntmps129
 go_wp2_with fail
 go_region_held3 (fun w' => Later wb w') (exact inferInstance) (first
  | (go_at_call 28; refine (spec_l5Find H.out (hwb0.trans inferInstance) u).mono ?_; rintro e w4 ⟨rfl, L4⟩; have X4 := Later.trans (w := wb) inferInstance L4)
  | (go_at_call 126; refine (spec_l5End H.out (hwb0.trans inferInstance) NF.out _ FU.out.1 FU.out.2 TU.out.in_).mono ?_; rintro e w5 ⟨rfl, L5⟩; have X5 := Later.trans (w := wb) inferInstance L5))
 go_wp2
 go_ret
 exact ⟨ret_int HE.out.symm, hww.trans inferInstance⟩
set_option maxHeartbeats 1000000 in
theorem spec_l12Gap {w0 w w2 : World} {sA0 : Option Addr} {sn0 sc0 : Nat} {sA1 : Option Addr} {sn1 sc1 : Nat} {sA2 : Option Addr} {sn2 sc2 : Nat} {t : Timetable} (h : TimetableAt w0 sA0 sn0 sc0 sA1 sn1 sc1 sA2 sn2 sc2 t) (hl : Later w0 w) {qA0 : Option Addr} {qn0 qc0 : Nat} {f : Fleet} (h2 : FleetAt w2 qA0 qn0 qc0 f) (hl2 : Later w2 w) (rf : RunFacts t f) {w3 w4 : World} {aA : Option Addr} {an ac : Nat} {x : List Int} (h3 : Ints w3 aA an ac x) (hl3 : Later w3 w) (hxp : 0 < x.length) (hxf : FoundAll t x) {cA : Option Addr} {cn cc : Nat} {z : List Int} (h4 : Ints w4 cA cn cc z) (hl4 : Later w4 w) (hzp : 0 < z.length) (hzf : FoundAll t z) :
  Calls Tryz.prog 131 #[.agg #[.slice sA0 sn0 sc0, .slice sA1 sn1 sc1, .slice sA2 sn2 sc2], .agg #[.slice qA0 qn0 qc0, .int .i64 f.Turn], .slice aA an ac, .slice cA cn cc] w (Ret (.int .i64 (gapP t f x z)) w) := by
 have hP := h3.later hl3
 have hR := h4.later hl4
 have HB0 : ∀ W [Later ((w.alloc (.cells #[.slice sA0 sn0 sc0, .slice sA1 sn1 sc1, .slice sA2 sn2 sc2] 44)).alloc (.cells #[.slice qA0 qn0 qc0, .int .i64 f.Turn] 46)) W] (j : Nat), W.cell? ⟨w.heap.size, j, none⟩ = #[.slice sA0 sn0 sc0, .slice sA1 sn1 sc1, .slice sA2 sn2 sc2][j]? := Later.boxes (t := 44) (fr := (0, 0)) ((heap_old (by simp; try omega)).trans (heap_new (by simp; try omega))); have HB1 : ∀ W [Later ((w.alloc (.cells #[.slice sA0 sn0 sc0, .slice sA1 sn1 sc1, .slice sA2 sn2 sc2] 44)).alloc (.cells #[.slice qA0 qn0 qc0, .int .i64 f.Turn] 46)) W] (j : Nat), W.cell? ⟨w.heap.size + 1, j, none⟩ = #[.slice qA0 qn0 qc0, .int .i64 f.Turn][j]? := Later.boxes (t := 46) (fr := (0, 0)) (heap_new (by simp; try omega)); obtain ⟨wb, hwb⟩ : ∃ wb : World, wb = ((w.alloc (.cells #[.slice sA0 sn0 sc0, .slice sA1 sn1 sc1, .slice sA2 sn2 sc2] 44)).alloc (.cells #[.slice qA0 qn0 qc0, .int .i64 f.Turn] 46)) := ⟨_, rfl⟩; haveI hbW : Later wb ((w.alloc (.cells #[.slice sA0 sn0 sc0, .slice sA1 sn1 sc1, .slice sA2 sn2 sc2] 44)).alloc (.cells #[.slice qA0 qn0 qc0, .int .i64 f.Turn] 46)) := (by rw [hwb]; exact Later.rfl_); haveI hww : Later w wb := (by rw [hwb]; infer_instance); rw [← hwb] at HB0; rw [← hwb] at HB1; have hbE := Lib.hid (congrArg (fun x : World => x.heap.size) hwb); clear hwb
 have hwb0 := hl.trans hww
 have hwb2 := hl2.trans hww
 have H := Lib.hid h
 have H2 := Lib.hid h2
 clear h h2
 replace hP := hP.later hww
 replace hR := hR.later hww
 have hpl := hP.le
 have hrl := hR.le
 have Hlen := Lib.hid hP.len
 obtain ⟨m, rfl⟩ : ∃ m : Nat, an = m + 1 := ⟨an - 1, by have := Hlen.out; omega⟩
 have hcn : 0 < cn := by rw [hR.len]; exact hzp
 have hcn' : (0 : Int) < (cn : Int) := by omega
 obtain ⟨b1, o1, u, rfl, hu, hcu, _⟩ := Ints.at_ hP (show m < m + 1 by omega)
 obtain ⟨b2, o2, v, rfl, hv, hcv, _⟩ := Ints.at_ hR hcn
 simp only [Nat.add_zero] at hcv
 have e1 : lastI x = u := lastI_of Hlen.out hu.out
 have e2 : headI z = v := headI_of hv.out
 have fu := hxf u (List.mem_of_getElem? hu.out)
 have fv := hzf v (List.mem_of_getElem? hv.out)
 have TU := Lib.hid (tripI_facts rf.time fu (findI_bd t u).2)
 have TV := Lib.hid (tripI_facts rf.time fv (findI_bd t v).2)
 have FU : Hid (0 ≤ findI t u ∧ findI t u < t.Trips.length) := ⟨fu, (findI_bd t u).2⟩
 have FV : Hid (0 ≤ findI t v ∧ findI t v < t.Trips.length) := ⟨fv, (findI_bd t v).2⟩
 have q1 := begP_bd rf.time hzp hzf
 have q2 := finP_bd rf.time hxp hxf
 have q3 := pairDead_bd rf fu fv
 have hg : begP t z - finP t x - pairDead t f u v = gapP t f x z := by unfold gapP; rw [e1, e2]
 have hw1 : IntKind.i64.wrap (begP t z - finP t x) = begP t z - finP t x := by rw [IntKind.wrap_i64]; omega
 have hw2 : IntKind.i64.wrap (begP t z - finP t x - pairDead t f u v) = gapP t f x z := by rw [IntKind.wrap_i64, hg]; omega
 have hwm : IntKind.i64.wrap (((m + 1 : Nat) : Int) - 1) = (m : Int) := by rw [IntKind.wrap_i64]; omega
 have hwm2 : IntKind.i64.wrap ((m : Int) + 1 - 1) = (m : Int) := by rw [IntKind.wrap_i64]; omega
 have hwm3 : IntKind.i64.wrap (m : Int) = (m : Int) := by rw [IntKind.wrap_i64]; omega
 have hm1 : (m : Int) < (m : Int) + 1 := by omega
 have HP := Lib.hid hP
 have HR := Lib.hid hR
 have HXP := Lib.hid hxp
 have HXF := Lib.hid hxf
 have HZP := Lib.hid hzp
 have HZF := Lib.hid hzf
 have RF := Lib.hid rf
 clear h3 h4 hP hR hxp hxf hzp hzf hu hv e1 e2 fu fv q1 q2 q3 hg rf
 go_enter Tryz.func131, Tryz.ntmps131
 go_wp2_with fail
 go_region_held3 (fun w' => Later wb w') (exact inferInstance) (first
  | (go_at_call 130; refine (spec_l12Start H.out (hwb0.trans inferInstance) RF.out.time HR.out inferInstance HZP.out HZF.out).mono ?_; rintro e w4 ⟨rfl, L4⟩; have X4 := Later.trans (w := wb) inferInstance L4)
  | (go_at_call 129; refine (spec_l12End H.out (hwb0.trans inferInstance) RF.out.time HP.out inferInstance HXP.out HXF.out).mono ?_; rintro e w5 ⟨rfl, L5⟩; have X5 := Later.trans (w := wb) inferInstance L5)
  | ((with_reducible refine (spec_l5Find H.out (hwb0.trans inferInstance) u).mono ?_); rintro e w6 ⟨rfl, L6⟩; have X6 := Later.trans (w := wb) inferInstance L6)
  | ((with_reducible refine (spec_l5Find H.out (hwb0.trans inferInstance) v).mono ?_); rintro e w7 ⟨rfl, L7⟩; have X7 := Later.trans (w := wb) inferInstance L7)
  | (go_at_call 127; refine (spec_l11Dead H.out (hwb0.trans inferInstance) H2.out (hwb2.trans inferInstance) RF.out.time.net RF.out.fleet _ _ FU.out.1 FU.out.2 FV.out.1 FV.out.2 TU.out.in_ TV.out.in_).mono ?_; change ∀ _ _, Ret (.int .i64 (pairDead t f u v)) _ _ _ → _; rintro e w8 ⟨rfl, L8⟩; have X8 := Later.trans (w := wb) inferInstance L8))
 clear hw1 hw2
 go_wp2
 go_ret
 exact ⟨rfl, hww.trans inferInstance⟩
set_option maxHeartbeats 1000000 in
theorem spec_l12Length {w0 w : World} {sA0 : Option Addr} {sn0 sc0 : Nat} {sA1 : Option Addr} {sn1 sc1 : Nat} {sA2 : Option Addr} {sn2 sc2 : Nat} {t : Timetable} (h : TimetableAt w0 sA0 sn0 sc0 sA1 sn1 sc1 sA2 sn2 sc2 t) (hl : Later w0 w) {r : Rules} {eA0 : Option Addr} {en0 ec0 : Nat} {d : Duty} {w3 : World} (h3 : DutyAt w3 eA0 en0 ec0 d) (hl3 : Later w3 w) (tf : TimeFacts t) (rf : RulesFacts r) (bf : BrkFacts t d.Pieces) :
  Calls Tryz.prog 132 #[.agg #[.slice sA0 sn0 sc0, .slice sA1 sn1 sc1, .slice sA2 sn2 sc2], .agg #[.int .i64 r.SignOn, .int .i64 r.SignOff, .int .i64 r.MaxDrive, .int .i64 r.MinBreak, .int .i64 r.PaidBreak, .int .i64 r.MaxLength], .agg #[.slice eA0 en0 ec0]] w (Ret (.int .i64 (lenD t r d.Pieces)) w) := by
 have hB := h3.l_Pieces.later hl3
 have HB0 : ∀ W [Later (((w.alloc (.cells #[.slice sA0 sn0 sc0, .slice sA1 sn1 sc1, .slice sA2 sn2 sc2] 44)).alloc (.cells #[.int .i64 r.SignOn, .int .i64 r.SignOff, .int .i64 r.MaxDrive, .int .i64 r.MinBreak, .int .i64 r.PaidBreak, .int .i64 r.MaxLength] 49)).alloc (.cells #[.slice eA0 en0 ec0] 76)) W] (j : Nat), W.cell? ⟨w.heap.size, j, none⟩ = #[.slice sA0 sn0 sc0, .slice sA1 sn1 sc1, .slice sA2 sn2 sc2][j]? := Later.boxes (t := 44) (fr := (0, 0)) ((heap_old (by simp; try omega)).trans ((heap_old (by simp; try omega)).trans (heap_new (by simp; try omega)))); have HB1 : ∀ W [Later (((w.alloc (.cells #[.slice sA0 sn0 sc0, .slice sA1 sn1 sc1, .slice sA2 sn2 sc2] 44)).alloc (.cells #[.int .i64 r.SignOn, .int .i64 r.SignOff, .int .i64 r.MaxDrive, .int .i64 r.MinBreak, .int .i64 r.PaidBreak, .int .i64 r.MaxLength] 49)).alloc (.cells #[.slice eA0 en0 ec0] 76)) W] (j : Nat), W.cell? ⟨w.heap.size + 1, j, none⟩ = #[.int .i64 r.SignOn, .int .i64 r.SignOff, .int .i64 r.MaxDrive, .int .i64 r.MinBreak, .int .i64 r.PaidBreak, .int .i64 r.MaxLength][j]? := Later.boxes (t := 49) (fr := (0, 0)) ((heap_old (by simp; try omega)).trans (heap_new (by simp; try omega))); have HB2 : ∀ W [Later (((w.alloc (.cells #[.slice sA0 sn0 sc0, .slice sA1 sn1 sc1, .slice sA2 sn2 sc2] 44)).alloc (.cells #[.int .i64 r.SignOn, .int .i64 r.SignOff, .int .i64 r.MaxDrive, .int .i64 r.MinBreak, .int .i64 r.PaidBreak, .int .i64 r.MaxLength] 49)).alloc (.cells #[.slice eA0 en0 ec0] 76)) W] (j : Nat), W.cell? ⟨w.heap.size + 1 + 1, j, none⟩ = #[.slice eA0 en0 ec0][j]? := Later.boxes (t := 76) (fr := (0, 0)) (heap_new (by simp; try omega)); obtain ⟨wb, hwb⟩ : ∃ wb : World, wb = (((w.alloc (.cells #[.slice sA0 sn0 sc0, .slice sA1 sn1 sc1, .slice sA2 sn2 sc2] 44)).alloc (.cells #[.int .i64 r.SignOn, .int .i64 r.SignOff, .int .i64 r.MaxDrive, .int .i64 r.MinBreak, .int .i64 r.PaidBreak, .int .i64 r.MaxLength] 49)).alloc (.cells #[.slice eA0 en0 ec0] 76)) := ⟨_, rfl⟩; haveI hbW : Later wb (((w.alloc (.cells #[.slice sA0 sn0 sc0, .slice sA1 sn1 sc1, .slice sA2 sn2 sc2] 44)).alloc (.cells #[.int .i64 r.SignOn, .int .i64 r.SignOff, .int .i64 r.MaxDrive, .int .i64 r.MinBreak, .int .i64 r.PaidBreak, .int .i64 r.MaxLength] 49)).alloc (.cells #[.slice eA0 en0 ec0] 76)) := (by rw [hwb]; exact Later.rfl_); haveI hww : Later w wb := (by rw [hwb]; infer_instance); rw [← hwb] at HB0; rw [← hwb] at HB1; rw [← hwb] at HB2; have hbE := Lib.hid (congrArg (fun x : World => x.heap.size) hwb); clear hwb
 have hwb0 := hl.trans hww
 have H := Lib.hid h
 replace hB := hB.later hww
 have hbl := hB.le
 have hen : en0 = d.Pieces.length := hB.len
 have hb0 := bf.pos
 obtain ⟨m, rfl⟩ : ∃ m : Nat, en0 = m + 1 := ⟨en0 - 1, by omega⟩
 obtain ⟨b, o, A1, n1, c1, x, rfl, hx, hc0, hi⟩ := Sl.row_ hB (show 0 < m + 1 by omega)
 obtain ⟨b', o', A2, n2, c2, z, hA', hz, hc0', hi'⟩ := Sl.row_ hB (show m < m + 1 by omega)
 cases hA'
 simp only [Nat.add_zero] at hc0
 have hxf := bf.at_ hx.out
 have hzf := bf.at_ hz.out
 have q1 := begP_bd tf hxf.1 hxf.2
 have q2 := finP_bd tf hzf.1 hzf.2
 have q3 := rf.on
 have q4 := rf.off
 have HE : Hid (lenD t r d.Pieces = r.SignOn + finP t z - begP t x + r.SignOff) := by show _ = _; unfold lenD; rw [lastP_of hen hz.out, headP_of hx.out]
 have hw1 : IntKind.i64.wrap (r.SignOn + finP t z) = r.SignOn + finP t z := by rw [IntKind.wrap_i64]; omega
 have hw2 : IntKind.i64.wrap (r.SignOn + finP t z - begP t x) = r.SignOn + finP t z - begP t x := by rw [IntKind.wrap_i64]; omega
 have hw3 : IntKind.i64.wrap (r.SignOn + finP t z - begP t x + r.SignOff) = r.SignOn + finP t z - begP t x + r.SignOff := by rw [IntKind.wrap_i64]; omega
 have hwm : IntKind.i64.wrap (((m + 1 : Nat) : Int) - 1) = (m : Int) := by rw [IntKind.wrap_i64]; omega
 have hwm2 : IntKind.i64.wrap ((m : Int) + 1 - 1) = (m : Int) := by rw [IntKind.wrap_i64]; omega
 have hwm3 : IntKind.i64.wrap (m : Int) = (m : Int) := by rw [IntKind.wrap_i64]; omega
 have hm1 : (m : Int) < (m : Int) + 1 := by omega
 have hm2 : (0 : Int) < (m : Int) + 1 := by omega
 have HI := Lib.hid hi
 have HI' := Lib.hid hi'
 have HXP := Lib.hid hxf.1
 have HZP := Lib.hid hzf.1
 have HXF := Lib.hid hxf.2
 have HZF := Lib.hid hzf.2
 have TF := Lib.hid tf
 have hf0 := field_Span0
 have hf1 := field_Span1
 clear h h3 hB hi hi' hx hz hxf hzf q1 q2 q3 q4 tf rf bf hen hb0
 go_enter Tryz.func132, Tryz.ntmps132
 go_wp2_with fail
 go_region_held3 (fun w' => Later wb w') (exact inferInstance) (first
  | (go_at_call 130; refine (spec_l12Start H.out (hwb0.trans inferInstance) TF.out HI.out inferInstance HXP.out HXF.out).mono ?_; rintro e w4 ⟨rfl, L4⟩; have X4 := Later.trans (w := wb) inferInstance L4)
  | (go_at_call 129; refine (spec_l12End H.out (hwb0.trans inferInstance) TF.out HI'.out inferInstance HZP.out HZF.out).mono ?_; rintro e w5 ⟨rfl, L5⟩; have X5 := Later.trans (w := wb) inferInstance L5))
 clear hw1 hw2 hw3 hwm hwm2 hwm3
 go_wp2
 go_ret
 exact ⟨ret_int HE.out.symm, hww.trans inferInstance⟩
end Go.Proofs.YtknhebakebmlcaaGreat
