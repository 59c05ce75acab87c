/-
  append(own, l...): a whole slice of numbers behind what is the call's own.
-/
import Derived.Test.YtaopadffabbjiaaApp
namespace Go.Proofs.Ytaopadffabbjiaa
open Go Go.RowKit
set_option linter.unusedVariables false
set_option maxRecDepth 100000
theorem wpList_app_N {P : Program} {ops : Array Oper} {rest : List Oper} {o : Oper} {a : Act} {Q : Exit → Act → World → Prop} (hgd : o.guard = none) (s x : Operand) (t : TypeId)
    (ho : o.op = .call { callee := .builtin .append, args := #[s, x], argTypes := #[t, t] }) {e : TypeId} (ht : P.underlying t = some (.slice e))
    (hi : (P.info? e).map (fun i => (i.zero, i.size, i.bytes)) = some (some (.int .i64 0), 1, 8))
    {w0 W : World} {base : Nat} {v : Value} {n : Nat} {xs : List Value} (hs : a.eval s = v) (hown : W.ownsRow base e 1 v n xs) (hL : Later w0 W) (hb0 : w0.heap.size ≤ base) (hb1 : base ≤ W.heap.size)
    {A : Option Addr} {m c : Nat} {l : List Int} (hx : a.eval x = .slice A m c) (hl : Ints W A m c l) (hm : 0 < m) (hn : n + m ≤ 1073741824)
    (h : ∀ v' w', w'.ownsRow base e 1 v' (n + m) (xs ++ l.map (Value.int .i64)) → Later w0 w' → wpList P ops Q rest (a.put o.dst v') w') : wpList P ops Q (o :: rest) a W := by
  obtain ⟨i, i1, i2, i3, i4⟩ := info_parts hi
  have hb : (n + m) * 8 ≤ 140737488355328 := by omega
  obtain ⟨y0, hy0⟩ : ∃ y, l[0]? = some y := ⟨_, List.getElem?_eq_getElem (by have := hl.len; omega)⟩
  obtain ⟨b, o', _, rfl, _, _, _⟩ := hl.el 0 y0 hy0
  refine wpList_append_own _ hgd s x t ho base e i (.int .i64 0) 1 8 ht i1 i2 i3 i4 rfl (by decide) v n xs hs hown ⟨b, o', none⟩ m c (l.map (Value.int .i64)) hx (by rw [List.length_map, ← hl.len]; omega) (fun j u hu => ?_) (fun u hu => ?_) (by unfold maxLen; omega) hb hb1 (fun v' w' h2 h3 _ => ?_)
  · rw [List.getElem?_map, Option.map_eq_some_iff] at hu
    obtain ⟨y, hy, rfl⟩ := hu
    obtain ⟨b', o'', es, hA, hel, hc, hr⟩ := hl.el j y hy
    cases hA
    have hadd : (⟨b, o', none⟩ : Addr).add j = ⟨b, o' + j, none⟩ := by unfold Addr.add; split <;> simp_all
    rw [hadd]
    have := hc 0 (.int .i64 y) (by rw [hr.1]; rfl)
    simpa using this
  · obtain ⟨y, _, rfl⟩ := List.mem_map.1 hu
    rfl
  · exact h v' w' h2 (hL.of_grown h3 fun g hg => Nat.le_trans hb0 (hown.lt g hg).1)
/-- append(own, x) as one operation of a drawn region. -/
theorem wp_app_B {P : Program} {o : Oper} {a : Act} {K : Act → World → Prop} {Q : Exit → Act → World → Prop} (s x : Operand) (t : TypeId)
    (ho : o.op = .call { callee := .builtin .append, args := #[s, x], argTypes := #[t, t] }) {e : TypeId} {z : Value} {size bytes : Nat} (ht : P.underlying t = some (.slice e))
    (hi : (P.info? e).map (fun i => (i.zero, i.size, i.bytes)) = some (some z, size, bytes)) (hz : z.cells.size = size) (hsz : 0 < size) (hby : bytes ≤ 4096)
    {w0 W : World} {base : Nat} {v : Value} {n : Nat} {xs : List Value} (hs : a.eval s = v) (hown : W.ownsRow base e size v n xs) (hL : Later w0 W) (hb0 : w0.heap.size ≤ base) (hb1 : base ≤ W.heap.size) {cs : Array Value} {te : TypeId}
    (hx : a.eval x = .slice (some ⟨W.heap.size, 0, none⟩) 1 1) (hl : cs.size = size) (h1 : ∀ u ∈ cs.toList, u.oneCell' = true) (hn : n ≤ 1073741824)
    (h : ∀ v' w', w'.ownsRow base e size v' (n + 1) (xs ++ cs.toList) → Later w0 w' → K (a.put o.dst v') w') : o.wp P a (W.alloc (.cells cs te)) K Q := by
  obtain ⟨i, i1, i2, i3, i4⟩ := info_parts hi
  have hb : (n + 1) * bytes ≤ 140737488355328 := by
    have : (n + 1) * bytes ≤ 1073741825 * 4096 := Nat.mul_le_mul (by omega) hby
    omega
  refine wp_append_own _ s x t ho base e i z size bytes ht i1 i2 i3 i4 hz hsz v n xs hs (hown.alloc _) ⟨W.heap.size, 0, none⟩ 1 1 cs.toList hx (by simpa using hl) (fun j u hu => ?_) h1 (by unfold maxLen; omega) hb
    (by simp; omega) (fun v' w' h2 h3 _ => h v' w' h2 ?_)
  · have hadd : (⟨W.heap.size, 0, none⟩ : Addr).add j = ⟨W.heap.size, j, none⟩ := by unfold Addr.add; split <;> simp_all
    rw [hadd, World.cell?_alloc_new]
    simpa using hu
  · have hL' : Later w0 (W.alloc (.cells cs te)) := inferInstance
    exact hL'.of_grown h3 fun g hg => Nat.le_trans hb0 (hown.lt g hg).1
end Go.Proofs.Ytaopadffabbjiaa
