/-
 A slice of rows of numbers that grows by append, each row in blocks of its own. Lemmas only.
-/
import Derived.Test.YtknhebakebmlcaaGreatKc
import Derived.Test.YtknhebakebmlcaaGreatDb
namespace Go.Proofs.YtknhebakebmlcaaGreat
open Go Go.RowKit
set_option linter.unusedVariables false
set_option maxRecDepth 100000
theorem infoRow : (Tryz.prog.info? 66).map (fun i => (i.zero, i.size, i.bytes)) = some (some (.slice none 0 0), 1, 24) := by kernel_rfl
/-- Where what append returns lies: where it lay, or in the next block. -/
theorem append_block {P : Program} {w : World} {base : Nat} {t ty e : TypeId} {i : TypeInfo} {z : Value} (ht : P.underlying t = some (.slice e)) (hi : P.info? e = some i) (hz : i.zero = some z)
  {v : Value} {n : Nat} {xs : List Value} (hown : w.ownsRow base e i.size v n xs)
  {a : Addr} {m c : Nat} {news : List Value} (hl : news.length = m * i.size) (hnews : ∀ j u, news[j]? = some u → w.cell? (a.add j) = some u) (h1 : ∀ u ∈ news, u.oneCell' = true) (hm : 0 < m)
  (h63 : n + m ≤ maxLen) (hbytes : (n + m) * i.bytes ≤ 140737488355328) {v' : Value} {w' : World}
  (hr : (Builtin.append_ #[t, t] ty #[v, .slice (some a) m c]).run P w = .ok v' w') : ∀ g, v'.ownBlock = some g → v.ownBlock = some g ∨ g = w.heap.size := by
 have hsmall : n + m ≤ 9223372036854775807 := by simp only [maxLen] at h63; omega
 rcases hown.2 with ⟨rfl, rfl⟩ | ⟨g, cap, cur, rfl, hbg, hg, hnc, hcm, hcs, htake⟩
 ·have hr2 := run_append_nil (P := P) w t ty e i z ht hi hz a m c news hl hnews hm (by omega) (by have hb := hbytes; simp only [Nat.zero_add] at hb; omega)
  rw [hr] at hr2
  injection hr2 with e1 e2
  subst e1
  intro g hg
  exact .inr (by simpa [Value.ownBlock] using hg.symm)
 ·by_cases hroom : n + m ≤ cap
  ·have hfit : n * i.size + news.length ≤ cur.size := by rw [hl, hcs, ← Nat.add_mul]; exact Nat.mul_le_mul_right _ hroom
   have hr2 := run_append_room (P := P) w t ty e i ht hi g n cap cur hg a m c news hl hnews h1 hroom hfit
   rw [hr] at hr2
   injection hr2 with e1 e2
   subst e1
   intro g' hg'
   exact .inl (by simpa [Value.ownBlock] using hg')
  ·have holds : ∀ j u, xs[j]? = some u → w.cell? ((⟨g, 0, none⟩ : Addr).add j) = some u := hown.cells (g := g) rfl
   have hr2 := run_append_grow (P := P) w t ty e i z ht hi hz ⟨g, 0, none⟩ n cap xs hown.1 holds a m c news hl hnews (by omega) (by omega) (growslice_fits (by omega) hbytes)
   rw [hr] at hr2
   injection hr2 with e1 e2
   subst e1
   intro g' hg'
   exact .inr (by simpa [Value.ownBlock] using hg'.symm)
/-- The slice v holds just these rows, each in blocks of its own. -/
def ORows (w : World) (base : Nat) (e : TypeId) (v : Value) (ls : List (List Int)) : Prop :=
 ∃ (vs : List Value) (fps : List (List Nat)), w.ownsRow base e 1 v ls.length vs ∧ fps.length = ls.length ∧
  (∀ (k : Nat) (x : List Int), ls[k]? = some x → ∃ A n c f, vs[k]? = some (.slice A n c) ∧ fps[k]? = some f ∧ OSl 1 oInt w A n c x f) ∧
  fps.flatten.Nodup ∧ (∀ g, g ∈ fps.flatten → base ≤ g) ∧ (∀ g, v.ownBlock = some g → g ∉ fps.flatten)
theorem ORows.later {w W : World} {base : Nat} {e : TypeId} {v : Value} {ls : List (List Int)} (h : ORows w base e v ls) (hl : Later w W) : ORows W base e v ls := by
 obtain ⟨vs, fps, h1, h2, h3, h4, h5, h6⟩ := h
 exact ⟨vs, fps, ownsRow_later h1 hl, h2, fun k x hx => by obtain ⟨A, n, c, f, a, b, d⟩ := h3 k x hx; exact ⟨A, n, c, f, a, b, d.later hl⟩, h4, h5, h6⟩
theorem ORows.of0 {w : World} {base : Nat} {e : TypeId} {v : Value} (h : w.ownsRow base e 1 v 0 []) : ORows w base e v [] :=
 ⟨[], [], h, rfl, fun k x hx => by simp at hx, by simp, by simp, by simp⟩
theorem ORows.nil_ (w : World) (base : Nat) (e : TypeId) : ORows w base e (.slice none 0 0) [] := .of0 (World.ownsRow_nil w base e 1)
theorem rows_lt {w : World} {vs : List Value} {fps : List (List Nat)} {ls : List (List Int)} (h2 : fps.length = ls.length)
  (h3 : ∀ (k : Nat) (x : List Int), ls[k]? = some x → ∃ A n c f, vs[k]? = some (.slice A n c) ∧ fps[k]? = some f ∧ OSl 1 oInt w A n c x f) : ∀ g, g ∈ fps.flatten → g < w.heap.size := by
 intro g hg
 obtain ⟨f, hf, hgf⟩ := List.mem_flatten.1 hg
 obtain ⟨k, hk, rfl⟩ := List.getElem_of_mem hf
 obtain ⟨A, n, c, f', _, hf', ho⟩ := h3 k ls[k] (List.getElem?_eq_getElem (by omega))
 rw [List.getElem?_eq_getElem hk] at hf'
 cases hf'
 exact ho.lt _ hgf
/-- append(own, row) as one operation. -/
theorem wp_app_R {P : Program} {o : Oper} {a : Act} {K : Act → World → Prop} {Q : Exit → Act → World → Prop} (s x : Operand) (t : TypeId)
  (ho : o.op = .call { callee := .builtin .append, args := #[s, x], argTypes := #[t, t] }) {e : TypeId} {bytes : Nat} (ht : P.underlying t = some (.slice e))
  (hi : (P.info? e).map (fun i => (i.zero, i.size, i.bytes)) = some (some (.slice none 0 0), 1, bytes)) (hby : bytes ≤ 4096)
  {w0 w1 W : World} {base : Nat} {v : Value} {ls : List (List Int)} (hs : a.eval s = v) (hO : ORows w1 base e v ls) (h1W : Later w1 W) (hL : Later w0 W) (hb0 : w0.heap.size ≤ base) (hb1 : base ≤ w1.heap.size)
  {A : Option Addr} {n c : Nat} {y : List Int} {f : List Nat} (hrow : OSl 1 oInt W A n c y f) (hnd : f.Nodup) (hlo : ∀ g, g ∈ f → w1.heap.size ≤ g) {te : TypeId}
  (hx : a.eval x = .slice (some ⟨W.heap.size, 0, none⟩) 1 1) (hn : ls.length ≤ 1073741824)
  (h : ∀ v' w', ORows w' base e v' (ls ++ [y]) → Later w0 w' → K (a.put o.dst v') w') : o.wp P a (W.alloc (.cells #[.slice A n c] te)) K Q := by
 obtain ⟨i, i1, i2, i3, i4⟩ := info_parts hi
 obtain ⟨vs, fps, q1, q2, q3, q4, q5, q6⟩ := hO
 have hlt := rows_lt q2 q3
 have hsz := h1W.size
 have hown := (ownsRow_later q1 h1W).alloc (.cells #[.slice A n c] te)
 have hb : (ls.length + 1) * bytes ≤ 140737488355328 := by
  have : (ls.length + 1) * bytes ≤ 1073741825 * 4096 := Nat.mul_le_mul (by omega) hby
  omega
 have hnews : ∀ j u, [Value.slice A n c][j]? = some u → (W.alloc (.cells #[.slice A n c] te)).cell? ((⟨W.heap.size, 0, none⟩ : Addr).add j) = some u := fun j u hu => by
  have hadd : (⟨W.heap.size, 0, none⟩ : Addr).add j = ⟨W.heap.size, j, none⟩ := by unfold Addr.add; split <;> simp_all
  rw [hadd, World.cell?_alloc_new]
  simpa using hu
 have h1 : ∀ u ∈ [Value.slice A n c], u.oneCell' = true := by
  intro u hu
  simp at hu
  subst hu
  rfl
 obtain ⟨v', w', hr, r2, r3, r4⟩ := run_append_own (P := P) (W.alloc (.cells #[.slice A n c] te)) base t o.type e i (.slice none 0 0) 1 bytes ht i1 i2 i3 i4 rfl (by decide) v ls.length vs hown ⟨W.heap.size, 0, none⟩ 1 1 [.slice A n c] (by simp) hnews h1 (by unfold maxLen; omega) hb (by simp; omega)
 have hbl := append_block (P := P) ht i1 i2 (by rw [i3]; exact hown) (news := [.slice A n c]) (by rw [i3]; rfl) hnews h1 (by decide) (by unfold maxLen; omega) (by rw [i4]; exact hb) hr
 have hol : ∀ g, v.ownBlock = some g → g < w1.heap.size := fun g hg => (q1.lt g hg).2
 have keepOld : ∀ g, g < W.heap.size → v.ownBlock ≠ some g → w'.heap[g]? = W.heap[g]? := fun g hg hne =>
  (r3.block g (by simp; omega) (fun e => hne e.symm)).trans (heap_alloc_old W _ hg)
 unfold Oper.wp execOp
 simp only [ho, resolve, invoke, builtin, Sem.run_bind, Sem.run_pure, Result.andThen_ok, List.map_toArray, List.map_cons, List.map_nil, hs, hx, hr]
 refine h v' w' ⟨vs ++ [.slice A n c], fps ++ [f], by simpa using r2, by simp [q2], fun k z hz => ?_, ?_, ?_, ?_⟩ ?_
 ·by_cases hk : k < ls.length
  ·rw [List.getElem?_append_left hk] at hz
   obtain ⟨A2, n2, c2, f2, a1, a2, a3⟩ := q3 k z hz
   have hvl := (List.getElem?_eq_some_iff.1 a1).1
   have hfl := (List.getElem?_eq_some_iff.1 a2).1
   refine ⟨A2, n2, c2, f2, by rw [List.getElem?_append_left hvl]; exact a1, by rw [List.getElem?_append_left hfl]; exact a2, ?_⟩
   refine (a3.later h1W).keep fun g hg => keepOld g (by have := a3.lt g hg; omega) fun hv => q6 g hv ?_
   exact mem_flatten_at a2 hg
  ·have hk2 : k = ls.length := by
    have := (List.getElem?_eq_some_iff.1 hz).1
    simp at this; omega
   subst hk2
   have hvl : vs.length = ls.length := by have := q1.1; simpa using this
   rw [List.getElem?_append_right (Nat.le_refl _)] at hz
   simp at hz
   subst hz
   refine ⟨A, n, c, f, by rw [List.getElem?_append_right (by omega)]; simp [hvl], by rw [List.getElem?_append_right (by omega)]; simp [q2], ?_⟩
   exact hrow.keep fun g hg => keepOld g (hrow.lt g hg) fun hv => by have := hol g hv; have := hlo g hg; omega
 ·rw [List.flatten_append]
  simp only [List.flatten_cons, List.flatten_nil, List.append_nil]
  exact nodup_app q4 hnd hlt hlo
 ·intro g hg
  rw [List.flatten_append] at hg
  simp only [List.flatten_cons, List.flatten_nil, List.append_nil, List.mem_append] at hg
  rcases hg with hg | hg
  ·exact q5 g hg
  ·have := hlo g hg; omega
 ·intro g hg hm
  rw [List.flatten_append] at hm
  simp only [List.flatten_cons, List.flatten_nil, List.append_nil, List.mem_append] at hm
  rcases hbl g hg with hv | rfl
  ·rcases hm with hm | hm
   ·exact q6 g hv hm
   ·have := hol g hv; have := hlo g hm; omega
  ·have hsa : (W.alloc (.cells #[.slice A n c] te)).heap.size = W.heap.size + 1 := by simp
   rcases hm with hm | hm
   ·have := hlt _ hm; omega
   ·have := hrow.lt _ hm; omega
 ·have hL' : Later w0 (W.alloc (.cells #[.slice A n c] te)) := inferInstance
  exact hL'.of_grown r3 fun g hg => Nat.le_trans hb0 (q1.lt g hg).1
theorem wpList_app_R {P : Program} {ops : Array Oper} {rest : List Oper} {o : Oper} {a : Act} {Q : Exit → Act → World → Prop} (hgd : o.guard = none) (s x : Operand) (t : TypeId)
  (ho : o.op = .call { callee := .builtin .append, args := #[s, x], argTypes := #[t, t] }) {e : TypeId} {bytes : Nat} (ht : P.underlying t = some (.slice e))
  (hi : (P.info? e).map (fun i => (i.zero, i.size, i.bytes)) = some (some (.slice none 0 0), 1, bytes)) (hby : bytes ≤ 4096)
  {w0 w1 W : World} {base : Nat} {v : Value} {ls : List (List Int)} (hs : a.eval s = v) (hO : ORows w1 base e v ls) (h1W : Later w1 W) (hL : Later w0 W) (hb0 : w0.heap.size ≤ base) (hb1 : base ≤ w1.heap.size)
  {A : Option Addr} {n c : Nat} {y : List Int} {f : List Nat} (hrow : OSl 1 oInt W A n c y f) (hnd : f.Nodup) (hlo : ∀ g, g ∈ f → w1.heap.size ≤ g) {te : TypeId}
  (hx : a.eval x = .slice (some ⟨W.heap.size, 0, none⟩) 1 1) (hn : ls.length ≤ 1073741824)
  (h : ∀ v' w', ORows w' base e v' (ls ++ [y]) → Later w0 w' → wpList P ops Q rest (a.put o.dst v') w') : wpList P ops Q (o :: rest) a (W.alloc (.cells #[.slice A n c] te)) :=
 wpList_plain hgd fun _ hK => wp_app_R s x t ho ht hi hby hs hO h1W hL hb0 hb1 hrow hnd hlo hx hn fun v' w' h2 h3 => hK _ _ (h v' w' h2 h3)
/-- What is handed back. -/
theorem ORows.shut {w : World} {base : Nat} {e : TypeId} {v : Value} {ls : List (List Int)} (h : ORows w base e v ls) :
  ∃ A c fp, v = .slice A ls.length c ∧ OSl 1 (oSl 1 oInt) w A ls.length c ls fp ∧ fp.Nodup ∧ ∀ g, g ∈ fp → base ≤ g := by
 obtain ⟨vs, fps, q1, q2, q3, q4, q5, q6⟩ := h
 rcases q1.2 with ⟨rfl, hn⟩ | ⟨g, cap, cur, rfl, hb, hg, hnc, hcm, hsz, htk⟩
 ·have : ls = [] := List.length_eq_zero_iff.1 hn
  subst this
  exact ⟨none, 0, [], rfl, OSl.nil_ _, by simp, by simp⟩
 ·refine ⟨some ⟨g, 0, none⟩, cap, g :: fps.flatten, rfl, ⟨rfl, hnc, by simpa [maxLen] using hcm, .inr ⟨g, 0, e, cur, fps, rfl, hg, rfl, q2, fun k x hx => ?_⟩⟩, ?_, ?_⟩
  ·obtain ⟨A, n, c, f, a1, a2, a3⟩ := q3 k x hx
   refine ⟨[.slice A n c], f, a2, rfl, fun j u hu => ?_, ⟨A, n, c, rfl, a3⟩⟩
   match j, hu with
   | 0, hu =>
    simp at hu
    subst hu
    rw [← htk, List.getElem?_take] at a1
    split at a1
    ·simpa using a1
    ·cases a1
  ·exact List.nodup_cons.2 ⟨q6 g rfl, q4⟩
  ·intro g' hg'
   rcases List.mem_cons.1 hg' with rfl | hg'
   ·exact hb
   ·exact q5 _ hg'
end Go.Proofs.YtknhebakebmlcaaGreat
