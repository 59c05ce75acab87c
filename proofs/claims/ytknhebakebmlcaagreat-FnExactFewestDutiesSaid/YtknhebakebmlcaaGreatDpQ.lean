/-
 FewestDuties: rows of numbers that grow beside another growing slice; what append leaves alone. Lemmas only.
-/
import Derived.Test.YtknhebakebmlcaaGreatDpD
namespace Go.Proofs.YtknhebakebmlcaaGreat
open Go Go.RowKit
set_option linter.unusedVariables false
set_option maxRecDepth 100000
set_option linter.unusedSimpArgs false
abbrev RowV := Value × List Int × List Nat
def blksR (L : List RowV) : List Nat := (L.map (·.2.2)).flatten
theorem blksR_app (L K : List RowV) : blksR (L ++ K) = blksR L ++ blksR K := by unfold blksR; rw [List.map_append, List.flatten_append]
theorem blksR_mem {L : List RowV} {x : RowV} (hx : x ∈ L) {g : Nat} (hg : g ∈ x.2.2) : g ∈ blksR L := List.mem_flatten.2 ⟨x.2.2, List.mem_map.2 ⟨x, hx, rfl⟩, hg⟩
/-- The slice ov holds just these duties, each in blocks of its own. -/
structure RowS (w : World) (base : Nat) (e : TypeId) (ov : Value) (L : List RowV) : Prop where
 own : w.ownsRow base e 1 ov L.length (L.map (·.1))
 el : ∀ x, x ∈ L → ∃ A n c, x.1 = .slice A n c ∧ OSl 1 oInt w A n c x.2.1 x.2.2
 nd : (blksR L).Nodup
 far : ∀ g, ov.ownBlock = some g → g ∉ blksR L
section
variable {w W : World} {base : Nat} {e : TypeId} {ov : Value} {L : List RowV}
theorem RowS.lt (h : RowS w base e ov L) : ∀ g, g ∈ blksR L → g < w.heap.size := by
 intro g hg
 unfold blksR at hg
 obtain ⟨f, hf, hgf⟩ := List.mem_flatten.1 hg
 obtain ⟨x, hx, rfl⟩ := List.mem_map.1 hf
 obtain ⟨A, n, c, _, ho⟩ := h.el x hx
 exact ho.lt g hgf
theorem RowS.later (h : RowS w base e ov L) (hl : Later w W) : RowS W base e ov L :=
 ⟨ownsRow_later h.own hl, fun x hx => by obtain ⟨A, n, c, a, b⟩ := h.el x hx; exact ⟨A, n, c, a, b.later hl⟩, h.nd, h.far⟩
theorem RowS.touch {fp : List Nat} (h : RowS w base e ov L) (hT : Touch fp w W) (hf : ∀ g, g ∈ fp → g < base) (hd : ∀ g, g ∈ fp → g ∉ blksR L) : RowS W base e ov L :=
 ⟨own_touch h.own hT hf, fun x hx => by obtain ⟨A, n, c, a, b⟩ := h.el x hx; exact ⟨A, n, c, a, b.touch hT fun g hg hm => hd g hm (blksR_mem hx hg)⟩, h.nd, h.far⟩
theorem RowS.nil_ (w : World) (base : Nat) (e : TypeId) : RowS w base e (.slice none 0 0) [] :=
 ⟨World.ownsRow_nil w base e 1, fun x hx => by simp at hx, by simp [blksR], by simp [blksR]⟩
/-- append(own, duty) as one operation. -/
theorem wp_app_S {P : Program} {o : Oper} {a : Act} {K : Act → World → Prop} {Q : Exit → Act → World → Prop} (s x : Operand) (t : TypeId)
  (ho : o.op = .call { callee := .builtin .append, args := #[s, x], argTypes := #[t, t] }) {e : TypeId} {bytes : Nat} (ht : P.underlying t = some (.slice e))
  (hi : (P.info? e).map (fun i => (i.zero, i.size, i.bytes)) = some (some (.slice none 0 0), 1, bytes)) (hby : bytes ≤ 4096)
  {w1 W : World} {base : Nat} {v : Value} {L : List RowV} (hs : a.eval s = v) (hO : RowS w1 base e v L) (h1W : Later w1 W) (hb1 : base ≤ w1.heap.size)
  {A : Option Addr} {n c : Nat} {d : List Int} {f : List Nat} (hrow : OSl 1 oInt W A n c d f) (hnd : f.Nodup) (hdj : ∀ g, g ∈ f → g ∉ blksR L) (hov : ∀ g, v.ownBlock = some g → g ∉ f) {te : TypeId}
  (hx : a.eval x = .slice (some ⟨W.heap.size, 0, none⟩) 1 1) (hn : L.length ≤ 1073741824)
  (h : ∀ v' w', RowS w' base e v' (L ++ [(.slice A n c, d, f)]) → W.grownBy w' v.ownBlock → (∀ g, v'.ownBlock = some g → v.ownBlock = some g ∨ W.heap.size ≤ g) → K (a.put o.dst v') w') : o.wp P a (W.alloc (.cells #[.slice A n c] te)) K Q := by
 obtain ⟨i, i1, i2, i3, i4⟩ := info_parts hi
 have q1 := hO.own
 have hlt := hO.lt
 have hsz := h1W.size
 have hown := (ownsRow_later q1 h1W).alloc (.cells #[.slice A n c] te)
 have hb : (L.length + 1) * bytes ≤ 140737488355328 := by
  have : (L.length + 1) * bytes ≤ 1073741825 * 4096 := Nat.mul_le_mul (by omega) hby
  omega
 have hnews : ∀ j u, [Value.slice A n c][j]? = some u → (W.alloc (.cells #[.slice A n c] te)).cell? ((⟨W.heap.size, 0, none⟩ : Addr).add j) = some u := fun j u hu => by
  have hadd : (⟨W.heap.size, 0, none⟩ : Addr).add j = ⟨W.heap.size, j, none⟩ := by unfold Addr.add; split <;> simp_all
  rw [hadd, World.cell?_alloc_new]
  simpa using hu
 have h1 : ∀ u ∈ [Value.slice A n c], u.oneCell' = true := by
  intro u hu
  simp at hu
  subst hu
  rfl
 obtain ⟨v', w', hr, r2, r3, r4⟩ := run_append_own (P := P) (W.alloc (.cells #[.slice A n c] te)) base t o.type e i (.slice none 0 0) 1 bytes ht i1 i2 i3 i4 rfl (by decide) v L.length (L.map (·.1)) hown ⟨W.heap.size, 0, none⟩ 1 1 [.slice A n c] (by simp) hnews h1 (by unfold maxLen; omega) hb (by simp; omega)
 have hbl := append_block (P := P) ht i1 i2 (by rw [i3]; exact hown) (news := [.slice A n c]) (by rw [i3]; rfl) hnews h1 (by decide) (by unfold maxLen; omega) (by rw [i4]; exact hb) hr
 have hol : ∀ g, v.ownBlock = some g → g < w1.heap.size := fun g hg => (q1.lt g hg).2
 have keepOld : ∀ g, g < W.heap.size → v.ownBlock ≠ some g → w'.heap[g]? = W.heap[g]? := fun g hg hne =>
  (r3.block g (by simp; omega) (fun e => hne e.symm)).trans (heap_alloc_old W _ hg)
 have hfl : ∀ g, g ∈ f → g < W.heap.size := hrow.lt
 unfold Oper.wp execOp
 simp only [ho, resolve, invoke, builtin, Sem.run_bind, Sem.run_pure, Result.andThen_ok, List.map_toArray, List.map_cons, List.map_nil, hs, hx, hr]
 have hbk : blksR [((.slice A n c, d, f) : RowV)] = f := by simp [blksR]
 refine h v' w' ⟨by simpa using r2, fun z hz => ?_, ?_, fun g hg hm => ?_⟩ ?_ (fun g hg => (hbl g hg).imp_right fun e => by rw [e]; simp)
 ·rcases List.mem_append.1 hz with hz | hz
  ·obtain ⟨A2, n2, c2, a1, a2⟩ := hO.el z hz
   exact ⟨A2, n2, c2, a1, (a2.later h1W).keep fun g hg => keepOld g (by have := a2.lt g hg; omega) fun hv => hO.far g hv (blksR_mem hz hg)⟩
  ·simp only [List.mem_singleton] at hz
   subst hz
   exact ⟨A, n, c, rfl, hrow.keep fun g hg => keepOld g (hfl g hg) fun hv => hov g hv hg⟩
 ·rw [blksR_app, hbk, List.nodup_append]
  exact ⟨hO.nd, hnd, fun x hx y hy e => hdj y hy (e ▸ hx)⟩
 ·rw [blksR_app, hbk] at hm
  rcases hbl g hg with hv | rfl
  ·rcases List.mem_append.1 hm with hm | hm
   ·exact hO.far g hv hm
   ·exact hov g hv hm
  ·have hsa : (W.alloc (.cells #[.slice A n c] te)).heap.size = W.heap.size + 1 := by simp
   rcases List.mem_append.1 hm with hm | hm
   ·have := hlt _ hm; omega
   ·have := hfl _ hm; omega
 ·exact ⟨r3.os, r3.tape, r3.output, by have := r3.size; simp at this; omega, fun g hg hne => (r3.block g (by simp; omega) hne).trans (heap_alloc_old W _ hg)⟩
theorem wpList_app_S {P : Program} {ops : Array Oper} {rest : List Oper} {o : Oper} {a : Act} {Q : Exit → Act → World → Prop} (hgd : o.guard = none) (s x : Operand) (t : TypeId)
  (ho : o.op = .call { callee := .builtin .append, args := #[s, x], argTypes := #[t, t] }) {e : TypeId} {bytes : Nat} (ht : P.underlying t = some (.slice e))
  (hi : (P.info? e).map (fun i => (i.zero, i.size, i.bytes)) = some (some (.slice none 0 0), 1, bytes)) (hby : bytes ≤ 4096)
  {w1 W : World} {base : Nat} {v : Value} {L : List RowV} (hs : a.eval s = v) (hO : RowS w1 base e v L) (h1W : Later w1 W) (hb1 : base ≤ w1.heap.size)
  {A : Option Addr} {n c : Nat} {d : List Int} {f : List Nat} (hrow : OSl 1 oInt W A n c d f) (hnd : f.Nodup) (hdj : ∀ g, g ∈ f → g ∉ blksR L) (hov : ∀ g, v.ownBlock = some g → g ∉ f) {te : TypeId}
  (hx : a.eval x = .slice (some ⟨W.heap.size, 0, none⟩) 1 1) (hn : L.length ≤ 1073741824)
  (h : ∀ v' w', RowS w' base e v' (L ++ [(.slice A n c, d, f)]) → W.grownBy w' v.ownBlock → (∀ g, v'.ownBlock = some g → v.ownBlock = some g ∨ W.heap.size ≤ g) → wpList P ops Q rest (a.put o.dst v') w') : wpList P ops Q (o :: rest) a (W.alloc (.cells #[.slice A n c] te)) :=
 wpList_plain hgd fun _ hK => wp_app_S s x t ho ht hi hby hs hO h1W hb1 hrow hnd hdj hov hx hn fun v' w' h2 h3 h4 => hK _ _ (h v' w' h2 h3 h4)
end
/-- append(own, number) as one operation: what it leaves alone. -/
theorem wp_app_I {P : Program} {o : Oper} {a : Act} {K : Act → World → Prop} {Q : Exit → Act → World → Prop} (s x : Operand) (t : TypeId)
  (ho : o.op = .call { callee := .builtin .append, args := #[s, x], argTypes := #[t, t] }) {e : TypeId} {bytes : Nat} (ht : P.underlying t = some (.slice e))
  (hi : (P.info? e).map (fun i => (i.zero, i.size, i.bytes)) = some (some (.int .i64 0), 1, bytes)) (hby : bytes ≤ 4096)
  {w1 W : World} {base : Nat} {v : Value} {m : Nat} {xs : List Value} (hs : a.eval s = v) (hO : w1.ownsRow base e 1 v m xs) (h1W : Later w1 W) (hb1 : base ≤ w1.heap.size) {y : Int} {te : TypeId}
  (hx : a.eval x = .slice (some ⟨W.heap.size, 0, none⟩) 1 1) (hn : m ≤ 1073741824)
  (h : ∀ v' w', w'.ownsRow base e 1 v' (m + 1) (xs ++ [.int .i64 y]) → W.grownBy w' v.ownBlock → (∀ g, v'.ownBlock = some g → v.ownBlock = some g ∨ W.heap.size ≤ g) → K (a.put o.dst v') w') : o.wp P a (W.alloc (.cells #[.int .i64 y] te)) K Q := by
 obtain ⟨i, i1, i2, i3, i4⟩ := info_parts hi
 have hsz := h1W.size
 have hown := (ownsRow_later hO h1W).alloc (.cells #[.int .i64 y] te)
 have hb : (m + 1) * bytes ≤ 140737488355328 := by
  have : (m + 1) * bytes ≤ 1073741825 * 4096 := Nat.mul_le_mul (by omega) hby
  omega
 have hnews : ∀ j u, [Value.int .i64 y][j]? = some u → (W.alloc (.cells #[.int .i64 y] te)).cell? ((⟨W.heap.size, 0, none⟩ : Addr).add j) = some u := fun j u hu => by
  have hadd : (⟨W.heap.size, 0, none⟩ : Addr).add j = ⟨W.heap.size, j, none⟩ := by unfold Addr.add; split <;> simp_all
  rw [hadd, World.cell?_alloc_new]
  simpa using hu
 have h1 : ∀ u ∈ [Value.int .i64 y], u.oneCell' = true := by
  intro u hu
  simp at hu
  subst hu
  rfl
 obtain ⟨v', w', hr, r2, r3, r4⟩ := run_append_own (P := P) (W.alloc (.cells #[.int .i64 y] te)) base t o.type e i (.int .i64 0) 1 bytes ht i1 i2 i3 i4 rfl (by decide) v m xs hown ⟨W.heap.size, 0, none⟩ 1 1 [.int .i64 y] (by simp) hnews h1 (by unfold maxLen; omega) hb (by simp; omega)
 have hbl := append_block (P := P) ht i1 i2 (by rw [i3]; exact hown) (news := [.int .i64 y]) (by rw [i3]; rfl) hnews h1 (by decide) (by unfold maxLen; omega) (by rw [i4]; exact hb) hr
 unfold Oper.wp execOp
 simp only [ho, resolve, invoke, builtin, Sem.run_bind, Sem.run_pure, Result.andThen_ok, List.map_toArray, List.map_cons, List.map_nil, hs, hx, hr]
 refine h v' w' r2 ?_ (fun g hg => (hbl g hg).imp_right fun e => by rw [e]; simp)
 exact ⟨r3.os, r3.tape, r3.output, by have := r3.size; simp at this; omega, fun g hg hne => (r3.block g (by simp; omega) hne).trans (heap_alloc_old W _ hg)⟩
theorem RowS.rows {w : World} {base : Nat} {e : TypeId} {v : Value} {L : List RowV} (h : RowS w base e v L) (hb : ∀ g, g ∈ blksR L → base ≤ g) : ORows w base e v (L.map (·.2.1)) :=
 ⟨L.map (fun (x : RowV) => x.1), L.map (fun (x : RowV) => x.2.2), by simpa using h.own, by simp, fun k x hx => by
  rw [List.getElem?_map, Option.map_eq_some_iff] at hx
  obtain ⟨y, hy, rfl⟩ := hx
  obtain ⟨A, n, c, e1, e2⟩ := h.el y (List.mem_of_getElem? hy)
  exact ⟨A, n, c, y.2.2, by rw [List.getElem?_map, hy, ← e1]; rfl, by rw [List.getElem?_map, hy]; rfl, e2⟩, h.nd, hb, h.far⟩
end Go.Proofs.YtknhebakebmlcaaGreat
