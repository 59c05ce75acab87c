/-
  append(own, l...): a whole slice, of flat elements, copied into blocks of the call's own.
-/
import Derived.Test.YtaopadffabbjiaaApp
import Derived.Test.YtaopadffabbjiaaHSpan
import Derived.Laws.Cover3
namespace Go.Proofs.Ytaopadffabbjiaa
open Go Go.RowKit
set_option linter.unusedVariables false
set_option maxRecDepth 100000
/-- A flat datum's cells, by a function. -/
class Enc {α : Type} (sz : Nat) (r : Rep α) (enc : outParam (α → List Value)) : Prop where
  len : ∀ x, (enc x).length = sz
  one : ∀ x u, u ∈ enc x → u.oneCell' = true
  eq : ∀ {W : World} {es : List Value} {x : α}, r W es x → es = enc x
  all : ∀ {W : World} {es : List Value} {x : α}, r W es x → ∀ W', r W' (enc x) x
section
variable {α : Type} {sz : Nat} {enc : α → List Value}
theorem flatm_len (hl : ∀ x, (enc x).length = sz) (l : List α) : (l.flatMap enc).length = l.length * sz := by
  induction l with
  | nil => simp
  | cons x l ih => simp only [List.flatMap_cons, List.length_append, ih, hl, List.length_cons, Nat.succ_mul]; omega
theorem flat_at (hl : ∀ x, (enc x).length = sz) (l : List α) {k j : Nat} {x : α} {u : Value} (hk : l[k]? = some x) (hj : (enc x)[j]? = some u) : (l.flatMap enc)[k * sz + j]? = some u := by
  induction l generalizing k with
  | nil => simp at hk
  | cons y l ih =>
    have hjl : j < sz := by have := (List.getElem?_eq_some_iff.1 hj).1; rw [hl] at this; exact this
    rw [List.flatMap_cons]
    cases k with
    | zero =>
      simp at hk; subst hk
      rw [List.getElem?_append_left (by rw [hl]; omega)]
      simpa using hj
    | succ k =>
      have hk' : l[k]? = some x := by simpa using hk
      rw [List.getElem?_append_right (by rw [hl, Nat.succ_mul]; omega), hl]
      rw [show (k + 1) * sz + j - sz = k * sz + j from by rw [Nat.succ_mul]; omega]
      exact ih hk'
theorem flat_of (hl : ∀ x, (enc x).length = sz) (l : List α) {i : Nat} {u : Value} (hi : (l.flatMap enc)[i]? = some u) : ∃ k j x, l[k]? = some x ∧ (enc x)[j]? = some u ∧ i = k * sz + j := by
  induction l generalizing i with
  | nil => simp at hi
  | cons y l ih =>
    rw [List.flatMap_cons] at hi
    by_cases h : i < sz
    · rw [List.getElem?_append_left (by rw [hl]; exact h)] at hi
      exact ⟨0, i, y, rfl, hi, by omega⟩
    · rw [List.getElem?_append_right (by rw [hl]; omega), hl] at hi
      obtain ⟨k, j, x, h1, h2, h3⟩ := ih hi
      exact ⟨k + 1, j, x, by simpa using h1, h2, by rw [Nat.succ_mul]; omega⟩
end
theorem run_append_none {P : Program} {w : World} (base : Nat) (t ty e : TypeId) (i : TypeInfo) (size : Nat) (ht : P.underlying t = some (.slice e)) (hi : P.info? e = some i)
    (v : Value) (n : Nat) (xs : List Value) (hown : w.ownsRow base e size v n xs) (c : Nat) : (Builtin.append_ #[t, t] ty #[v, .slice none 0 c]).run P w = .ok v w := by
  rcases hown.2 with ⟨rfl, rfl⟩ | ⟨g, cap, cur, rfl, _, _, hnc, _⟩
  · simp [Builtin.append_, run_underlying ht, sizeOf, typeInfo, hi, Builtin.lenOf, Builtin.firstCells]
  · simp [Builtin.append_, run_underlying ht, sizeOf, typeInfo, hi, Builtin.lenOf, Builtin.firstCells, hnc, storeCells]
/-- append(s, x...): s empty and the call's own. -/
theorem wpList_copy {P : Program} {ops : Array Oper} {rest : List Oper} {o : Oper} {a : Act} {Q : Exit → Act → World → Prop} (hgd : o.guard = none) (s x : Operand) (t : TypeId)
    (ho : o.op = .call { callee := .builtin .append, args := #[s, x], argTypes := #[t, t] }) {e : TypeId} {z : Value} {size bytes : Nat} (ht : P.underlying t = some (.slice e))
    (hi : (P.info? e).map (fun i => (i.zero, i.size, i.bytes)) = some (some z, size, bytes)) (hz : z.cells.size = size) (hsz : 0 < size) (hby : bytes ≤ 4096)
    {w0 W : World} {base : Nat} {v : Value} (hs : a.eval s = v) (hown : W.ownsRow base e size v 0 []) (hL : Later w0 W) (hb0 : w0.heap.size ≤ base) (hb1 : base ≤ W.heap.size)
    {α : Type} {r : Rep α} {enc : α → List Value} [he : Enc size r enc] {A : Option Addr} {n c : Nat} {l : List α} (hx : a.eval x = .slice A n c) (hl : Sl size r W A n c l) (hn : n ≤ 1073741824)
    (h : ∀ A' c' fp w', OSl size (oFlat r) w' A' n c' l fp → fp.Nodup → (∀ g, g ∈ fp → base ≤ g) → Later w0 w' → wpList P ops Q rest (a.put o.dst (.slice A' n c')) w') : wpList P ops Q (o :: rest) a W := by
  obtain ⟨i, i1, i2, i3, i4⟩ := info_parts hi
  have hen := he.len
  have hb : (0 + n) * bytes ≤ 140737488355328 := by
    have : (0 + n) * bytes ≤ 1073741824 * 4096 := Nat.mul_le_mul (by omega) hby
    omega
  have fin : ∀ v' w', w'.ownsRow base e size v' n (l.flatMap enc) → Later w0 w' → wpList P ops Q rest (a.put o.dst v') w' := by
    intro v' w' h1 h2
    obtain ⟨A', c', fp, rfl, ho', hnd, hlo⟩ := OSl.of_own (r := r) (l := l) h1 hl.len (fun k y hy => by
      obtain ⟨b', o', es, hA, hel, hc, hr⟩ := hl.el k y hy
      exact ⟨enc y, hen y, fun j u hu => flat_at hen l hy hu, fun W' => he.all hr W'⟩)
    exact h A' c' fp w' ho' hnd hlo h2
  by_cases hn0 : n = 0
  · subst hn0
    obtain rfl := hl.nil_of
    cases A with
    | none =>
      refine wpList_plain hgd fun K hK => ?_
      have hrun := run_append_none (P := P) (w := W) base t o.type e i size ht i1 v 0 [] hown c
      unfold Oper.wp
      simp [execOp, ho, resolve, invoke, builtin, hs, hx, hrun, Result.andThen]
      exact hK _ _ (fin v W (by simpa using hown) hL)
    | some ad =>
      refine wpList_append_own _ hgd s x t ho base e i z size bytes ht i1 i2 i3 i4 hz hsz v 0 [] hs hown ad 0 c [] hx (by simp) (fun j u hu => by simp at hu) (by simp) (by simp [maxLen]) (by simp) hb1 (fun v' w' h2 h3 _ => ?_)
      exact fin v' w' (by simpa using h2) (hL.of_grown h3 fun g hg => Nat.le_trans hb0 (hown.lt g hg).1)
  · have hpos : 0 < n := by omega
    obtain ⟨y0, hy0⟩ : ∃ y, l[0]? = some y := ⟨_, List.getElem?_eq_getElem (by have := hl.len; omega)⟩
    obtain ⟨b, o', _, rfl, _, _, _⟩ := hl.el 0 y0 hy0
    refine wpList_append_own _ hgd s x t ho base e i z size bytes ht i1 i2 i3 i4 hz hsz v 0 [] hs hown ⟨b, o', none⟩ n c (l.flatMap enc) hx (by rw [flatm_len hen, ← hl.len]) (fun j u hu => ?_) (fun u hu => ?_) (by unfold maxLen; omega) hb hb1 (fun v' w' h2 h3 _ => ?_)
    · obtain ⟨k, j', y, h1, h2, rfl⟩ := flat_of hen l hu
      obtain ⟨b', o'', es, hA, hel, hc, hr⟩ := hl.el k y h1
      cases hA
      have := he.eq hr
      subst this
      have hadd : (⟨b, o', none⟩ : Addr).add (k * size + j') = ⟨b, o' + (k * size + j'), none⟩ := by unfold Addr.add; split <;> simp_all
      rw [hadd, ← Nat.add_assoc]
      exact hc j' u h2
    · obtain ⟨y, _, hu⟩ := List.mem_flatMap.1 hu
      exact he.one y u hu
    · exact fin v' w' (by simpa using h2) (hL.of_grown h3 fun g hg => Nat.le_trans hb0 (hown.lt g hg).1)
instance : Enc 2 rSpan (fun t => [Value.int .i64 t.From, Value.int .i64 t.To]) := ⟨fun _ => rfl, fun x u hu => (by simp at hu; rcases hu with rfl | rfl <;> rfl), fun h => h.1, fun h _ => ⟨rfl, h.2⟩⟩
instance : Enc 1 rInt (fun x => [Value.int .i64 x]) := ⟨fun _ => rfl, fun x u hu => by simp at hu; subst hu; rfl, fun h => h.1, fun h _ => ⟨rfl, h.2⟩⟩
theorem Sl.none_nil {α : Type} {sz : Nat} {r : Rep α} {w : World} {n c : Nat} {l : List α} (h : Sl sz r w none n c l) : l = [] ∧ n = 0 := by
  have : l = [] := by
    cases l with
    | nil => rfl
    | cons x l => obtain ⟨b, o, es, hA, _⟩ := h.el 0 x rfl; cases hA
  exact ⟨this, by rw [h.len, this]; rfl⟩
theorem eql_nil {P : Program} (w : World) (t e : TypeId) (a : Option Addr) (l c : Nat) (h : P.underlying t = some (.slice e)) : (binOp .eql t (.slice a l c) (.slice none 0 0)).run P w = .ok (.bool a.isNone) w := by
  simp only [binOp]
  simp [run_equal_slice_nil w t e a l c h]
end Go.Proofs.Ytaopadffabbjiaa
