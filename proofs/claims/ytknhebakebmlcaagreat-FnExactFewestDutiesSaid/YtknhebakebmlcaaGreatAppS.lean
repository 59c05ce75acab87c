/-
 append(own, l[a:b]...) also as one operation of a drawn region; the back of a slice. Lemmas only.
-/
import Derived.Test.YtknhebakebmlcaaGreatDb
namespace Go.Proofs.YtknhebakebmlcaaGreat
open Go Go.RowKit
set_option linter.unusedVariables false
set_option maxRecDepth 100000
theorem Sl.back_ {α : Type} {r : Rep α} {w : World} {b o : Nat} {n c : Nat} {l : List α} (h : Sl 1 r w (some ⟨b, o, none⟩) n c l) {k : Nat} (hk : k ≤ n) : Sl 1 r w (some ⟨b, o + k, none⟩) (n - k) (c - k) (l.drop k) := by
 refine ⟨by rw [List.length_drop, ← h.len], Nat.sub_le_sub_right h.cap k, Nat.le_trans (Nat.sub_le _ _) h.max, fun j x hx => ?_⟩
 rw [List.getElem?_drop] at hx
 obtain ⟨b', o', es, hA, hl, hc, hr⟩ := h.el (k + j) x hx
 cases hA
 refine ⟨b, o + k, es, rfl, hl, fun i v hv => ?_, hr⟩
 have := hc i v hv
 simp only [Nat.mul_one] at this ⊢
 rw [show o + k + j + i = o + (k + j) + i from by omega]
 exact this
theorem Sl.front_ {α : Type} {sz : Nat} {r : Rep α} {w : World} {A : Option Addr} {n c : Nat} {l : List α} (h : Sl sz r w A n c l) {k : Nat} (hk : k ≤ n) : Sl sz r w A k c (l.take k) :=
 ⟨by rw [List.length_take, ← h.len]; omega, Nat.le_trans hk h.cap, h.max, fun j x hx => h.el j x (by
  rw [List.getElem?_take] at hx
  split at hx
  ·exact hx
  ·cases hx)⟩
theorem Sl.seg_ {α : Type} {r : Rep α} {w : World} {b o : Nat} {n c : Nat} {l : List α} (h : Sl 1 r w (some ⟨b, o, none⟩) n c l) {j k : Nat} (hj : j ≤ k) (hk : k ≤ n) : Sl 1 r w (some ⟨b, o + j, none⟩) (k - j) (c - j) ((l.take k).drop j) :=
 (h.front_ hk).back_ hj
/-- append(own, l...) as one operation of a drawn region, l somewhere in a block (it may be of no element). -/
theorem wp_app_N {P : Program} {o : Oper} {a : Act} {K : Act → World → Prop} {Q : Exit → Act → World → Prop} (s x : Operand) (t : TypeId)
  (ho : o.op = .call { callee := .builtin .append, args := #[s, x], argTypes := #[t, t] }) {e : TypeId} (ht : P.underlying t = some (.slice e))
  (hi : (P.info? e).map (fun i => (i.zero, i.size, i.bytes)) = some (some (.int .i64 0), 1, 8))
  {w0 W : World} {base : Nat} {v : Value} {n : Nat} {xs : List Value} (hs : a.eval s = v) (hown : W.ownsRow base e 1 v n xs) (hL : Later w0 W) (hb0 : w0.heap.size ≤ base) (hb1 : base ≤ W.heap.size)
  {b q m c : Nat} {l : List Int} (hx : a.eval x = .slice (some ⟨b, q, none⟩) m c) (hl : Ints W (some ⟨b, q, none⟩) m c l) (hn : n + m ≤ 1073741824)
  (h : ∀ v' w', w'.ownsRow base e 1 v' (n + m) (xs ++ l.map (Value.int .i64)) → Later w0 w' → K (a.put o.dst v') w') : o.wp P a W K Q := by
 obtain ⟨i, i1, i2, i3, i4⟩ := info_parts hi
 have hb : (n + m) * 8 ≤ 140737488355328 := by omega
 refine wp_append_own _ s x t ho base e i (.int .i64 0) 1 8 ht i1 i2 i3 i4 rfl (by decide) v n xs hs hown ⟨b, q, none⟩ m c (l.map (Value.int .i64)) hx (by rw [List.length_map, ← hl.len]; omega) (fun j u hu => ?_) (fun u hu => ?_) (by unfold maxLen; omega) hb hb1 (fun v' w' h2 h3 _ => ?_)
 ·rw [List.getElem?_map, Option.map_eq_some_iff] at hu
  obtain ⟨y, hy, rfl⟩ := hu
  obtain ⟨b', o'', es, hA, hel, hc, hr⟩ := hl.el j y hy
  cases hA
  have hadd : (⟨b, q, none⟩ : Addr).add j = ⟨b, q + j, none⟩ := by unfold Addr.add; split <;> simp_all
  rw [hadd]
  have := hc 0 (.int .i64 y) (by rw [hr.1]; rfl)
  simpa using this
 ·obtain ⟨y, _, rfl⟩ := List.mem_map.1 hu
  rfl
 ·exact h v' w' h2 (hL.of_grown h3 fun g hg => Nat.le_trans hb0 (hown.lt g hg).1)
theorem grown_blk {W w' : World} {v : Value} (h : W.grownBy w' v.ownBlock) {g : Nat} {t : TypeId} {cs : Array Value} (hb : Blk W g t cs) (hne : ∀ k, v.ownBlock = some k → k ≠ g) : Blk w' g t cs := by
 have hlt : g < W.heap.size := hb.lt
 unfold Blk at *
 rw [h.block g hlt (fun e => hne g e.symm rfl)]
 exact hb
/-- append(own, x), and what is kept beside the row. -/
theorem wpList_app_BG {P : Program} {ops : Array Oper} {rest : List Oper} {o : Oper} {a : Act} {Q : Exit → Act → World → Prop} (hgd : o.guard = none) (s x : Operand) (t : TypeId)
  (ho : o.op = .call { callee := .builtin .append, args := #[s, x], argTypes := #[t, t] }) {e : TypeId} {z : Value} {size bytes : Nat} (ht : P.underlying t = some (.slice e))
  (hi : (P.info? e).map (fun i => (i.zero, i.size, i.bytes)) = some (some z, size, bytes)) (hz : z.cells.size = size) (hsz : 0 < size) (hby : bytes ≤ 4096)
  {w0 W : World} {base : Nat} {v : Value} {n : Nat} {xs : List Value} (hs : a.eval s = v) (hown : W.ownsRow base e size v n xs) (hL : Later w0 W) (hb0 : w0.heap.size ≤ base) (hb1 : base ≤ W.heap.size) {cs : Array Value} {te : TypeId}
  (hx : a.eval x = .slice (some ⟨W.heap.size, 0, none⟩) 1 1) (hl : cs.size = size) (h1 : ∀ u ∈ cs.toList, u.oneCell' = true) (hn : n ≤ 1073741824)
  (h : ∀ v' w', w'.ownsRow base e size v' (n + 1) (xs ++ cs.toList) → Later w0 w' → (∀ (g : Nat) (t : TypeId) (cs : Array Value), Blk W g t cs → (∀ k, v.ownBlock = some k → k ≠ g) → Blk w' g t cs) → wpList P ops Q rest (a.put o.dst v') w') : wpList P ops Q (o :: rest) a (W.alloc (.cells cs te)) := by
 obtain ⟨i, i1, i2, i3, i4⟩ := info_parts hi
 have hb : (n + 1) * bytes ≤ 140737488355328 := by
  have : (n + 1) * bytes ≤ 1073741825 * 4096 := Nat.mul_le_mul (by omega) hby
  omega
 refine wpList_append_own _ hgd s x t ho base e i z size bytes ht i1 i2 i3 i4 hz hsz v n xs hs (hown.alloc _) ⟨W.heap.size, 0, none⟩ 1 1 cs.toList hx (by simpa using hl) (fun j u hu => ?_) h1 (by unfold maxLen; omega) hb
  (by simp; omega) (fun v' w' h2 h3 _ => h v' w' h2 ?_ fun g t' cs' hg hne => grown_blk h3 (hg.alloc _) hne)
 ·have hadd : (⟨W.heap.size, 0, none⟩ : Addr).add j = ⟨W.heap.size, j, none⟩ := by unfold Addr.add; split <;> simp_all
  rw [hadd, World.cell?_alloc_new]
  simpa using hu
 ·have hL' : Later w0 (W.alloc (.cells cs te)) := inferInstance
  exact hL'.of_grown h3 fun g hg => Nat.le_trans hb0 (hown.lt g hg).1
/-- append(own, l...) in a drawn region, and what is kept beside the row. -/
theorem wp_app_NG {P : Program} {o : Oper} {a : Act} {K : Act → World → Prop} {Q : Exit → Act → World → Prop} (s x : Operand) (t : TypeId)
  (ho : o.op = .call { callee := .builtin .append, args := #[s, x], argTypes := #[t, t] }) {e : TypeId} (ht : P.underlying t = some (.slice e))
  (hi : (P.info? e).map (fun i => (i.zero, i.size, i.bytes)) = some (some (.int .i64 0), 1, 8))
  {w0 W : World} {base : Nat} {v : Value} {n : Nat} {xs : List Value} (hs : a.eval s = v) (hown : W.ownsRow base e 1 v n xs) (hL : Later w0 W) (hb0 : w0.heap.size ≤ base) (hb1 : base ≤ W.heap.size)
  {b q m c : Nat} {l : List Int} (hx : a.eval x = .slice (some ⟨b, q, none⟩) m c) (hl : Ints W (some ⟨b, q, none⟩) m c l) (hn : n + m ≤ 1073741824)
  (h : ∀ v' w', w'.ownsRow base e 1 v' (n + m) (xs ++ l.map (Value.int .i64)) → Later w0 w' → W.grownBy w' v.ownBlock → K (a.put o.dst v') w') : o.wp P a W K Q := by
 obtain ⟨i, i1, i2, i3, i4⟩ := info_parts hi
 have hb : (n + m) * 8 ≤ 140737488355328 := by omega
 refine wp_append_own _ s x t ho base e i (.int .i64 0) 1 8 ht i1 i2 i3 i4 rfl (by decide) v n xs hs hown ⟨b, q, none⟩ m c (l.map (Value.int .i64)) hx (by rw [List.length_map, ← hl.len]; omega) (fun j u hu => ?_) (fun u hu => ?_) (by unfold maxLen; omega) hb hb1 (fun v' w' h2 h3 _ => ?_)
 ·rw [List.getElem?_map, Option.map_eq_some_iff] at hu
  obtain ⟨y, hy, rfl⟩ := hu
  obtain ⟨b', o'', es, hA, hel, hc, hr⟩ := hl.el j y hy
  cases hA
  have hadd : (⟨b, q, none⟩ : Addr).add j = ⟨b, q + j, none⟩ := by unfold Addr.add; split <;> simp_all
  rw [hadd]
  have := hc 0 (.int .i64 y) (by rw [hr.1]; rfl)
  simpa using this
 ·obtain ⟨y, _, rfl⟩ := List.mem_map.1 hu
  rfl
 ·exact h v' w' h2 (hL.of_grown h3 fun g hg => Nat.le_trans hb0 (hown.lt g hg).1) h3
theorem own_lit0 {W : World} {base g : Nat} {t : TypeId} (h : W.heap[g]? = some (.cells #[] t (0, 0))) (hb : base ≤ g) : W.ownsRow base t 1 (.slice (some ⟨g, 0, none⟩) 0 0) 0 [] :=
 ⟨rfl, .inr ⟨g, 0, #[], rfl, hb, h, Nat.le_refl _, by unfold maxLen; omega, rfl, rfl⟩⟩
theorem ints_lit1 {W : World} {g : Nat} {t : TypeId} {x : Int} (h : W.heap[g]? = some (.cells #[.int .i64 x] t (0, 0))) (hi : I64 x) : Ints W (some ⟨g, 0, none⟩) 1 1 [x] := by
 have ho := OSl.ints_blk (w := W) (g := g) (t := t) (cs := #[.int .i64 x]) (l := [x]) (n := 1) h rfl (by omega) (fun k y hy => by
  match k, hy with
  | 0, hy => simp at hy; subst hy; exact ⟨rfl, hi⟩)
 exact ho.reads
theorem own_base {W : World} {base b2 : Nat} {e : TypeId} {sz : Nat} {v : Value} {n : Nat} {xs : List Value} (h : W.ownsRow base e sz v n xs) (hb : b2 ≤ base) : W.ownsRow b2 e sz v n xs := by
 refine ⟨h.1, ?_⟩
 rcases h.2 with h0 | ⟨g, cap, cur, h1, h2, h3⟩
 ·exact .inl h0
 ·exact .inr ⟨g, cap, cur, h1, Nat.le_trans hb h2, h3⟩
end Go.Proofs.YtknhebakebmlcaaGreat
