/-
  append(own, l...) for slices of flat structs; the structs Choice and Leg as cells. Lemmas only.
-/
import Derived.Test.YtaopadffabbjiaaAppS
import Derived.Test.YtaopadffabbjiaaCopy
namespace Go.Proofs.Ytaopadffabbjiaa
open Go Go.RowKit
set_option linter.unusedVariables false
set_option maxRecDepth 100000
def encCh (c : Choice) : List Value := [.int .i64 c.Depart, .int .i64 c.Arrive, .int .i64 c.Legs]
def encLg (c : Leg) : List Value := [.int .i64 c.Trip, .int .i64 c.From, .int .i64 c.To, .int .i64 c.Depart, .int .i64 c.Arrive]
instance encChE : Enc 3 rChoice encCh where
  len := fun x => rfl
  one := fun x u h => by
    simp only [encCh, List.mem_cons, List.not_mem_nil, or_false] at h
    rcases h with rfl | rfl | rfl <;> rfl
  eq := fun h => h.1
  all := fun h W' => ⟨rfl, h.2⟩
instance encLgE : Enc 5 rLeg encLg where
  len := fun x => rfl
  one := fun x u h => by
    simp only [encLg, List.mem_cons, List.not_mem_nil, or_false] at h
    rcases h with rfl | rfl | rfl | rfl | rfl <;> rfl
  eq := fun h => h.1
  all := fun h W' => ⟨rfl, h.2⟩
section
variable {α : Type} {sz : Nat} {r : Rep α} {enc : α → List Value}
theorem flat_cells [he : Enc sz r enc] {W : World} {b q m c : Nat} {l : List α} (hl : Sl sz r W (some ⟨b, q, none⟩) m c l) {j : Nat} {u : Value} (hu : (l.flatMap enc)[j]? = some u) : W.cell? ((⟨b, q, none⟩ : Addr).add j) = some u := by
  obtain ⟨k, j', y, h1, h2, rfl⟩ := flat_of he.len l hu
  obtain ⟨b', o'', es, hA, hel, hc, hr⟩ := hl.el k y h1
  cases hA
  have := he.eq hr
  subst this
  have hadd : (⟨b, q, none⟩ : Addr).add (k * sz + j') = ⟨b, q + (k * sz + j'), none⟩ := by unfold Addr.add; split <;> simp_all
  rw [hadd, ← Nat.add_assoc]
  exact hc j' u h2
theorem flat_one [he : Enc sz r enc] {l : List α} {u : Value} (hu : u ∈ l.flatMap enc) : u.oneCell' = true := by
  obtain ⟨y, _, hu⟩ := List.mem_flatMap.1 hu
  exact he.one y u hu
/-- What a slice owns, read as flat structs. -/
theorem OSl.of_flat [he : Enc sz r enc] {w : World} {base : Nat} {e : TypeId} {v : Value} {n : Nat} {l : List α} (h : w.ownsRow base e sz v n (l.flatMap enc)) (hn : n = l.length) (hok : ∀ x, x ∈ l → ∀ W, r W (enc x) x) :
    ∃ A c fp, v = .slice A n c ∧ OSl sz (oFlat r) w A n c l fp ∧ fp.Nodup ∧ ∀ g, g ∈ fp → base ≤ g :=
  OSl.of_own h hn fun k x hx => ⟨enc x, he.len x, fun j u hu => flat_at he.len l hx hu, hok x (List.mem_of_getElem? hx)⟩
end
/-- append(own, l...) in a plain region. -/
theorem wpList_app_F {P : Program} {ops : Array Oper} {rest : List Oper} {o : Oper} {a : Act} {Q : Exit → Act → World → Prop} (hgd : o.guard = none) (s x : Operand) (t : TypeId)
    (ho : o.op = .call { callee := .builtin .append, args := #[s, x], argTypes := #[t, t] }) {e : TypeId} {z : Value} {size bytes : Nat} (ht : P.underlying t = some (.slice e))
    (hi : (P.info? e).map (fun i => (i.zero, i.size, i.bytes)) = some (some z, size, bytes)) (hz : z.cells.size = size) (hsz : 0 < size) (hby : bytes ≤ 4096)
    {α : Type} {r : Rep α} {enc : α → List Value} [he : Enc size r enc]
    {w0 W : World} {base : Nat} {v : Value} {n : Nat} {xs : List Value} (hs : a.eval s = v) (hown : W.ownsRow base e size v n xs) (hL : Later w0 W) (hb0 : w0.heap.size ≤ base) (hb1 : base ≤ W.heap.size)
    {b q m c : Nat} {l : List α} (hx : a.eval x = .slice (some ⟨b, q, none⟩) m c) (hl : Sl size r W (some ⟨b, q, none⟩) m c l) (hn : n + m ≤ 1073741824)
    (h : ∀ v' w', w'.ownsRow base e size v' (n + m) (xs ++ l.flatMap enc) → Later w0 w' → W.grownBy w' v.ownBlock → wpList P ops Q rest (a.put o.dst v') w') : wpList P ops Q (o :: rest) a W := by
  obtain ⟨i, i1, i2, i3, i4⟩ := info_parts hi
  have hb : (n + m) * bytes ≤ 140737488355328 := by
    have : (n + m) * bytes ≤ 1073741824 * 4096 := Nat.mul_le_mul (by omega) hby
    omega
  exact wpList_append_own _ hgd s x t ho base e i z size bytes ht i1 i2 i3 i4 hz hsz v n xs hs hown ⟨b, q, none⟩ m c (l.flatMap enc) hx (by rw [flatm_len he.len, ← hl.len]) (fun j u hu => flat_cells hl hu) (fun u hu => flat_one (r := r) (sz := size) hu) (by unfold maxLen; omega) hb hb1
    (fun v' w' h2 h3 _ => h v' w' h2 (hL.of_grown h3 fun g hg => Nat.le_trans hb0 (hown.lt g hg).1) h3)
/-- .. and in a drawn one. -/
theorem wp_app_F {P : Program} {o : Oper} {a : Act} {K : Act → World → Prop} {Q : Exit → Act → World → Prop} (s x : Operand) (t : TypeId)
    (ho : o.op = .call { callee := .builtin .append, args := #[s, x], argTypes := #[t, t] }) {e : TypeId} {z : Value} {size bytes : Nat} (ht : P.underlying t = some (.slice e))
    (hi : (P.info? e).map (fun i => (i.zero, i.size, i.bytes)) = some (some z, size, bytes)) (hz : z.cells.size = size) (hsz : 0 < size) (hby : bytes ≤ 4096)
    {α : Type} {r : Rep α} {enc : α → List Value} [he : Enc size r enc]
    {w0 W : World} {base : Nat} {v : Value} {n : Nat} {xs : List Value} (hs : a.eval s = v) (hown : W.ownsRow base e size v n xs) (hL : Later w0 W) (hb0 : w0.heap.size ≤ base) (hb1 : base ≤ W.heap.size)
    {b q m c : Nat} {l : List α} (hx : a.eval x = .slice (some ⟨b, q, none⟩) m c) (hl : Sl size r W (some ⟨b, q, none⟩) m c l) (hn : n + m ≤ 1073741824)
    (h : ∀ v' w', w'.ownsRow base e size v' (n + m) (xs ++ l.flatMap enc) → Later w0 w' → W.grownBy w' v.ownBlock → K (a.put o.dst v') w') : o.wp P a W K Q := by
  obtain ⟨i, i1, i2, i3, i4⟩ := info_parts hi
  have hb : (n + m) * bytes ≤ 140737488355328 := by
    have : (n + m) * bytes ≤ 1073741824 * 4096 := Nat.mul_le_mul (by omega) hby
    omega
  exact wp_append_own _ s x t ho base e i z size bytes ht i1 i2 i3 i4 hz hsz v n xs hs hown ⟨b, q, none⟩ m c (l.flatMap enc) hx (by rw [flatm_len he.len, ← hl.len]) (fun j u hu => flat_cells hl hu) (fun u hu => flat_one (r := r) (sz := size) hu) (by unfold maxLen; omega) hb hb1
    (fun v' w' h2 h3 _ => h v' w' h2 (hL.of_grown h3 fun g hg => Nat.le_trans hb0 (hown.lt g hg).1) h3)
theorem cells_ch (c : Choice) : ∀ u ∈ (#[Value.int .i64 c.Depart, Value.int .i64 c.Arrive, Value.int .i64 c.Legs] : Array Value).toList, u.oneCell' = true := fun u h => encChE.one c u h
theorem cells_3 (a b c : Int) : ∀ u ∈ (#[Value.int .i64 a, Value.int .i64 b, Value.int .i64 c] : Array Value).toList, u.oneCell' = true := cells_ch ⟨a, b, c⟩
theorem cells_5 (a b c d e : Int) : ∀ u ∈ (#[Value.int .i64 a, Value.int .i64 b, Value.int .i64 c, Value.int .i64 d, Value.int .i64 e] : Array Value).toList, u.oneCell' = true := fun u h => encLgE.one ⟨a, b, c, d, e⟩ u h
end Go.Proofs.Ytaopadffabbjiaa
