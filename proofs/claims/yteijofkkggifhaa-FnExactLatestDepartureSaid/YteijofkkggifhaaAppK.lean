/-
  append of one element to what is the call's own, with another block that stays as it is.
-/
import Derived.Test.YteijofkkggifhaaORow
namespace Go.Proofs.Yteijofkkggifhaa
open Go Go.RowKit
set_option linter.unusedVariables false
set_option maxRecDepth 100000
theorem wp_app_K {P : Program} {o : Oper} {a : Act} {K : Act → World → Prop} {Q : Exit → Act → World → Prop} (s x : Operand) (t : TypeId)
    (ho : o.op = .call { callee := .builtin .append, args := #[s, x], argTypes := #[t, t] }) {e : TypeId} {z : Value} {size bytes : Nat} (ht : P.underlying t = some (.slice e))
    (hi : (P.info? e).map (fun i => (i.zero, i.size, i.bytes)) = some (some z, size, bytes)) (hz : z.cells.size = size) (hsz : 0 < size) (hby : bytes ≤ 4096)
    {w0 W : World} {base : Nat} {v : Value} {n : Nat} {xs : List Value} (hs : a.eval s = v) (hown : W.ownsRow base e size v n xs) (hL : Later w0 W) (hb0 : w0.heap.size ≤ base) (hb1 : base ≤ W.heap.size) {cs : Array Value} {te : TypeId}
    (g : Nat) (hg : g < W.heap.size) (hgv : v.ownBlock ≠ some g)
    (hx : a.eval x = .slice (some ⟨W.heap.size, 0, none⟩) 1 1) (hl : cs.size = size) (h1 : ∀ u ∈ cs.toList, u.oneCell' = true) (hn : n ≤ 1073741824)
    (h : ∀ v' w', w'.ownsRow base e size v' (n + 1) (xs ++ cs.toList) → Later w0 w' → w'.heap[g]? = W.heap[g]? → v'.ownBlock ≠ some g → K (a.put o.dst v') w') : o.wp P a (W.alloc (.cells cs te)) K Q := by
  obtain ⟨i, i1, i2, i3, i4⟩ := info_parts hi
  have hb : (n + 1) * bytes ≤ 140737488355328 := by
    have : (n + 1) * bytes ≤ 1073741825 * 4096 := Nat.mul_le_mul (by omega) hby
    omega
  have hnews : ∀ j u, cs.toList[j]? = some u → (W.alloc (.cells cs te)).cell? ((⟨W.heap.size, 0, none⟩ : Addr).add j) = some u := fun j u hu => by
    have hadd : (⟨W.heap.size, 0, none⟩ : Addr).add j = ⟨W.heap.size, j, none⟩ := by unfold Addr.add; split <;> simp_all
    rw [hadd, World.cell?_alloc_new]
    simpa using hu
  have hO := hown.alloc (.cells cs te)
  obtain ⟨v', w', hr, r2, r3, r4⟩ := run_append_own (P := P) (W.alloc (.cells cs te)) base t o.type e i z size bytes ht i1 i2 i3 i4 hz hsz v n xs hO ⟨W.heap.size, 0, none⟩ 1 1 cs.toList (by simpa using hl) hnews h1 (by unfold maxLen; omega) hb (by simp; omega)
  have hbl := append_block (P := P) ht i1 i2 (by rw [i3]; exact hO) (news := cs.toList) (by rw [i3]; simpa using hl) hnews h1 (by decide) (by unfold maxLen; omega) (by rw [i4]; exact hb) hr
  unfold Oper.wp execOp
  simp only [ho, resolve, invoke, builtin, Sem.run_bind, Sem.run_pure, Result.andThen_ok, List.map_toArray, List.map_cons, List.map_nil, hs, hx, hr]
  have hL' : Later w0 (W.alloc (.cells cs te)) := inferInstance
  refine h v' w' (by simpa using r2) (hL'.of_grown r3 fun g' hg' => Nat.le_trans hb0 (hO.lt g' hg').1) ?_ ?_
  · exact (r3.block g (by simp; omega) (fun e => hgv e.symm)).trans (heap_alloc_old W _ hg)
  · intro hv
    rcases hbl g hv with h2 | h2
    · exact hgv h2
    · simp at h2; omega
theorem wpList_app_K {P : Program} {ops : Array Oper} {rest : List Oper} {o : Oper} {a : Act} {Q : Exit → Act → World → Prop} (hgd : o.guard = none) (s x : Operand) (t : TypeId)
    (ho : o.op = .call { callee := .builtin .append, args := #[s, x], argTypes := #[t, t] }) {e : TypeId} {z : Value} {size bytes : Nat} (ht : P.underlying t = some (.slice e))
    (hi : (P.info? e).map (fun i => (i.zero, i.size, i.bytes)) = some (some z, size, bytes)) (hz : z.cells.size = size) (hsz : 0 < size) (hby : bytes ≤ 4096)
    {w0 W : World} {base : Nat} {v : Value} {n : Nat} {xs : List Value} (hs : a.eval s = v) (hown : W.ownsRow base e size v n xs) (hL : Later w0 W) (hb0 : w0.heap.size ≤ base) (hb1 : base ≤ W.heap.size) {cs : Array Value} {te : TypeId}
    (g : Nat) (hg : g < W.heap.size) (hgv : v.ownBlock ≠ some g)
    (hx : a.eval x = .slice (some ⟨W.heap.size, 0, none⟩) 1 1) (hl : cs.size = size) (h1 : ∀ u ∈ cs.toList, u.oneCell' = true) (hn : n ≤ 1073741824)
    (h : ∀ v' w', w'.ownsRow base e size v' (n + 1) (xs ++ cs.toList) → Later w0 w' → w'.heap[g]? = W.heap[g]? → v'.ownBlock ≠ some g → wpList P ops Q rest (a.put o.dst v') w') : wpList P ops Q (o :: rest) a (W.alloc (.cells cs te)) :=
  wpList_plain hgd fun _ hK => wp_app_K s x t ho ht hi hz hsz hby hs hown hL hb0 hb1 g hg hgv hx hl h1 hn fun v' w' h2 h3 h4 h5 => hK _ _ (h v' w' h2 h3 h4 h5)
end Go.Proofs.Yteijofkkggifhaa
