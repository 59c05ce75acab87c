/-
  What the call owns, kept beside a store or an append elsewhere. Lemmas only.
-/
import Derived.Test.YtaopadffabbjiaaAppF
namespace Go.Proofs.Ytaopadffabbjiaa
open Go Go.RowKit
set_option linter.unusedVariables false
set_option maxRecDepth 100000
section
variable {w W w' : World} {base : Nat} {e : TypeId} {sz n : Nat} {v v2 : Value} {xs : List Value}
theorem own_keep (h : w.ownsRow base e sz v n xs) (hk : ∀ k, v.ownBlock = some k → W.heap[k]? = w.heap[k]?) : W.ownsRow base e sz v n xs := by
  obtain ⟨h1, h2⟩ := h
  refine ⟨h1, ?_⟩
  rcases h2 with h2 | ⟨g, cap, cur, rfl, h3, h4, h5⟩
  · exact .inl h2
  · exact .inr ⟨g, cap, cur, rfl, h3, (hk g rfl).trans h4, h5⟩
theorem own_shape (h : w.ownsRow base e sz v n xs) : ∃ A c, v = .slice A n c := by
  rcases h.2 with ⟨rfl, rfl⟩ | ⟨g, cap, cur, rfl, _⟩
  · exact ⟨none, 0, rfl⟩
  · exact ⟨_, cap, rfl⟩
theorem own_set (h : w.ownsRow base e sz v n xs) {b : Nat} (hb : ∀ k, v.ownBlock = some k → k ≠ b) (i : Nat) (u : Value) : (w.setCell ⟨b, i, none⟩ u).ownsRow base e sz v n xs :=
  own_keep h fun k hk => Below.heap_setCell w ⟨b, i, none⟩ u k (hb k hk)
theorem own_grown (h : w.ownsRow base e sz v n xs) (hg : w.grownBy w' v2.ownBlock) (hne : ∀ k, v.ownBlock = some k → ∀ j, v2.ownBlock = some j → k ≠ j) : w'.ownsRow base e sz v n xs :=
  own_keep h fun k hk => hg.block k (h.lt k hk).2 fun e2 => hne k hk k e2.symm rfl
theorem own_eqF {m : Nat} {ys : List Value} (h : W.ownsRow base e sz v n xs) (hm : n = m) (hx : xs = ys) : W.ownsRow base e sz v m ys := by subst hm; subst hx; exact h
theorem blk_grown {g : Nat} {t : TypeId} {cs : Array Value} (hb : Blk w g t cs) (hg : w.grownBy w' v2.ownBlock) (hne : ∀ j, v2.ownBlock = some j → g ≠ j) : Blk w' g t cs :=
  (hg.block g hb.lt fun e2 => hne g e2.symm rfl).trans hb
end
/-- append(own, x), and what has turned. -/
theorem wpList_app_G {P : Program} {ops : Array Oper} {rest : List Oper} {o : Oper} {a : Act} {Q : Exit → Act → World → Prop} (hgd : o.guard = none) (s x : Operand) (t : TypeId)
    (ho : o.op = .call { callee := .builtin .append, args := #[s, x], argTypes := #[t, t] }) {e : TypeId} {z : Value} {size bytes : Nat} (ht : P.underlying t = some (.slice e))
    (hi : (P.info? e).map (fun i => (i.zero, i.size, i.bytes)) = some (some z, size, bytes)) (hz : z.cells.size = size) (hsz : 0 < size) (hby : bytes ≤ 4096)
    {w0 W : World} {base : Nat} {v : Value} {n : Nat} {xs : List Value} (hs : a.eval s = v) (hown : W.ownsRow base e size v n xs) (hL : Later w0 W) (hb0 : w0.heap.size ≤ base) (hb1 : base ≤ W.heap.size) {cs : Array Value} {te : TypeId}
    (hx : a.eval x = .slice (some ⟨W.heap.size, 0, none⟩) 1 1) (hl : cs.size = size) (h1 : ∀ u ∈ cs.toList, u.oneCell' = true) (hn : n ≤ 1073741824)
    (h : ∀ v' w', w'.ownsRow base e size v' (n + 1) (xs ++ cs.toList) → Later w0 w' → (W.alloc (.cells cs te)).grownBy w' v.ownBlock → wpList P ops Q rest (a.put o.dst v') w') : wpList P ops Q (o :: rest) a (W.alloc (.cells cs te)) := by
  obtain ⟨i, i1, i2, i3, i4⟩ := info_parts hi
  have hb : (n + 1) * bytes ≤ 140737488355328 := by
    have : (n + 1) * bytes ≤ 1073741825 * 4096 := Nat.mul_le_mul (by omega) hby
    omega
  refine wpList_append_own _ hgd s x t ho base e i z size bytes ht i1 i2 i3 i4 hz hsz v n xs hs (hown.alloc _) ⟨W.heap.size, 0, none⟩ 1 1 cs.toList hx (by simpa using hl) (fun j u hu => ?_) h1 (by unfold maxLen; omega) hb
    (by simp; omega) (fun v' w' h2 h3 _ => h v' w' h2 ?_ h3)
  · have hadd : (⟨W.heap.size, 0, none⟩ : Addr).add j = ⟨W.heap.size, j, none⟩ := by unfold Addr.add; split <;> simp_all
    rw [hadd, World.cell?_alloc_new]
    simpa using hu
  · have hL' : Later w0 (W.alloc (.cells cs te)) := inferInstance
    exact hL'.of_grown h3 fun g hg => Nat.le_trans hb0 (hown.lt g hg).1
/-- append(own, l...), l read anyhow (a nil one too). -/
theorem wpList_app_FA {P : Program} {ops : Array Oper} {rest : List Oper} {o : Oper} {a : Act} {Q : Exit → Act → World → Prop} (hgd : o.guard = none) (s x : Operand) (t : TypeId)
    (ho : o.op = .call { callee := .builtin .append, args := #[s, x], argTypes := #[t, t] }) {e : TypeId} {z : Value} {size bytes : Nat} (ht : P.underlying t = some (.slice e))
    (hi : (P.info? e).map (fun i => (i.zero, i.size, i.bytes)) = some (some z, size, bytes)) (hz : z.cells.size = size) (hsz : 0 < size) (hby : bytes ≤ 4096)
    {α : Type} {r : Rep α} {enc : α → List Value} [he : Enc size r enc]
    {w0 W : World} {base : Nat} {v : Value} {n : Nat} {xs : List Value} (hs : a.eval s = v) (hown : W.ownsRow base e size v n xs) (hL : Later w0 W) (hb0 : w0.heap.size ≤ base) (hb1 : base ≤ W.heap.size)
    {A : Option Addr} {m c : Nat} {l : List α} (hx : a.eval x = .slice A m c) (hl : Sl size r W A m c l) (hn : n + m ≤ 1073741824)
    (h : ∀ v' w', w'.ownsRow base e size v' (n + m) (xs ++ l.flatMap enc) → Later w0 w' → W.grownBy w' v.ownBlock → wpList P ops Q rest (a.put o.dst v') w') : wpList P ops Q (o :: rest) a W := by
  by_cases hm : m = 0
  · subst hm
    obtain rfl := hl.nil_of
    cases A with
    | none =>
      obtain ⟨i, i1, i2, i3, i4⟩ := info_parts hi
      refine wpList_plain hgd fun K hK => ?_
      have hrun := run_append_none (P := P) (w := W) base t o.type e i size ht i1 v n xs hown c
      unfold Oper.wp
      simp [execOp, ho, resolve, invoke, builtin, hs, hx, hrun, Result.andThen]
      exact hK _ _ (h v W (by simpa using hown) hL ⟨rfl, rfl, rfl, Nat.le_refl _, fun _ _ _ => rfl⟩)
    | some ad =>
      obtain ⟨i, i1, i2, i3, i4⟩ := info_parts hi
      have hb : (n + 0) * bytes ≤ 140737488355328 := by
        have : (n + 0) * bytes ≤ 1073741824 * 4096 := Nat.mul_le_mul (by omega) hby
        omega
      exact wpList_append_own _ hgd s x t ho base e i z size bytes ht i1 i2 i3 i4 hz hsz v n xs hs hown ad 0 c [] hx (by simp) (fun j u hu => by simp at hu) (by simp) (by unfold maxLen; omega) hb hb1
        (fun v' w' h2 h3 _ => h v' w' (by simpa using h2) (hL.of_grown h3 fun g hg => Nat.le_trans hb0 (hown.lt g hg).1) h3)
  · obtain ⟨y0, hy0⟩ : ∃ y, l[0]? = some y := ⟨_, List.getElem?_eq_getElem (by have := hl.len; omega)⟩
    obtain ⟨b, o', _, rfl, _, _, _⟩ := hl.el 0 y0 hy0
    exact wpList_app_F hgd s x t ho ht hi hz hsz hby hs hown hL hb0 hb1 hx hl hn h
end Go.Proofs.Ytaopadffabbjiaa
