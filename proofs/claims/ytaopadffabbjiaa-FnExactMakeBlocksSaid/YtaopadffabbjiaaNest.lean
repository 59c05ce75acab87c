/-
  Slices whose elements lead into memory of their own: how one is built element by element, and how one element is changed. Lemmas only.
-/
import Derived.Test.YtaopadffabbjiaaInts
namespace Go.Proofs.Ytaopadffabbjiaa
open Go Go.RowKit
set_option linter.unusedVariables false
set_option maxRecDepth 100000
theorem Touch.set_one (w : World) (g o : Nat) (v : Value) : Touch [g] w (w.setCell ⟨g, o, none⟩ v) := Touch.refl_.set_ (by simp) o v
theorem flatten_snoc (fps : List (List Nat)) (f : List Nat) : (fps ++ [f]).flatten = fps.flatten ++ f := by simp
/-- k elements of l are laid in block g; fps: the blocks of each. -/
structure Built {α : Type} (sz : Nat) (ro : ORep α) (w wr : World) (g : Nat) (t : TypeId) (l : List α) (n k : Nat) (cs : Array Value) (fps : List (List Nat)) : Prop where
  blk : Blk wr g t cs
  size : cs.size = n * sz
  len : fps.length = k
  nodup : (g :: fps.flatten).Nodup
  lo : ∀ b, b ∈ g :: fps.flatten → w.heap.size ≤ b
  lt : ∀ b, b ∈ g :: fps.flatten → b < wr.heap.size
  el : ∀ (j : Nat) (x : α), j < k → l[j]? = some x → ∃ es f, fps[j]? = some f ∧ es.length = sz ∧ (∀ (i : Nat) (v : Value), es[i]? = some v → cs[j * sz + i]? = some v) ∧ ro wr es x f
section
variable {α : Type} {sz : Nat} {ro : ORep α} {w wr w1 w2 : World} {g : Nat} {t : TypeId} {l : List α} {n k : Nat} {cs cs' : Array Value} {fps : List (List Nat)}
theorem Built.start (h : Blk wr g t cs) (hs : cs.size = n * sz) (hg : w.heap.size ≤ g) : Built sz ro w wr g t l n 0 cs [] :=
  ⟨h, hs, rfl, by simp, by simpa using hg, by simpa using h.lt, fun j x hj => by omega⟩
theorem Built.step [OStays ro] (h : Built sz ro w wr g t l n k cs fps) (hL : Later wr w1) {es : List Value} {x : α} {f : List Nat} (hx : l[k]? = some x) (hro : ro w1 es x f) (hnd : f.Nodup) (hlo : ∀ b, b ∈ f → wr.heap.size ≤ b)
    (hT : Touch [g] w1 w2) (hw : Later w wr) (hB2 : Blk w2 g t cs') (hs2 : cs'.size = n * sz) (hes : es.length = sz) (hold : ∀ i, i < k * sz → cs'[i]? = cs[i]?) (hnew : ∀ (i : Nat) (v : Value), es[i]? = some v → cs'[k * sz + i]? = some v) :
    Built sz ro w w2 g t l n (k + 1) cs' (fps ++ [f]) := by
  have hf1 : ∀ b, b ∈ f → b < w1.heap.size := OStays.lt hro
  have hgf : g ∉ f := fun hg => by have := hlo g hg; have := h.blk.lt; omega
  have hro2 : ro w2 es x f := OStays.keep (fun b hb => hT.block b (hf1 b hb) (by simpa using fun e : b = g => hgf (e ▸ hb))) hro
  refine ⟨hB2, hs2, by simp [h.len], ?_, ?_, ?_, ?_⟩
  · rw [flatten_snoc, ← List.cons_append, List.nodup_append]
    refine ⟨h.nodup, hnd, fun a ha b hb e => ?_⟩
    subst e
    have := h.lt a ha
    have := hlo a hb
    omega
  · intro b hb
    rw [flatten_snoc, ← List.cons_append, List.mem_append] at hb
    rcases hb with hb | hb
    · exact h.lo b hb
    · have := hlo b hb; have := hw.size; omega
  · intro b hb
    rw [flatten_snoc, ← List.cons_append, List.mem_append] at hb
    rcases hb with hb | hb
    · have := h.lt b hb; have := hL.size; have := hT.size; omega
    · have := hf1 b hb; have := hT.size; omega
  · intro j y hj hy
    by_cases e : j = k
    · subst e
      obtain rfl := Option.some.inj (hx.symm.trans hy)
      exact ⟨es, f, by rw [List.getElem?_append_right (by rw [h.len]; omega)]; simp [h.len], hes, hnew, hro2⟩
    · have hjk : j < k := by omega
      obtain ⟨es', f', hf', he', hc', hr'⟩ := h.el j y hjk hy
      refine ⟨es', f', by rw [List.getElem?_append_left (by rw [h.len]; omega)]; exact hf', he', fun i v hv => ?_, ?_⟩
      · have hi : i < sz := by rw [← he']; exact (List.getElem?_eq_some_iff.1 hv).1
        have hb : j * sz + i < k * sz := by
          have : (j + 1) * sz ≤ k * sz := Nat.mul_le_mul_right sz (by omega)
          rw [Nat.add_mul] at this
          omega
        rw [hold _ hb]
        exact hc' i v hv
      · have hr1 : ro w1 es' y f' := OStays.keep (fun b hb => hL.below.block b (h.lt b (List.mem_cons_of_mem _ (mem_flatten_at hf' hb)))) hr'
        refine OStays.keep (fun b hb => hT.block b (OStays.lt hr1 b hb) ?_) hr1
        have := (List.nodup_cons.1 h.nodup).1
        simpa using fun e : b = g => this (e ▸ mem_flatten_at hf' hb)
theorem Built.done (h : Built sz ro w wr g t l n k cs fps) (hk : k = n) (hn : n = l.length) (hm : n ≤ 9223372036854775807) : OSl sz ro wr (some ⟨g, 0, none⟩) n n l (g :: fps.flatten) :=
  ⟨hn, Nat.le_refl _, hm, .inr ⟨g, 0, t, cs, fps, rfl, h.blk, rfl, by rw [h.len, hk, hn], fun j x hx => by
    obtain ⟨es, f, h1, h2, h3, h4⟩ := h.el j x (by have := (List.getElem?_eq_some_iff.1 hx).1; omega) hx
    exact ⟨es, f, h1, h2, by simpa using h3, h4⟩⟩⟩
end
/-- One element of an owned slice: its cells, and how the slice reads once it has been changed. -/
theorem OSl.elem {α : Type} {sz : Nat} {ro : ORep α} [OStays ro] {w : World} {A : Option Addr} {n c : Nat} {l : List α} {fp : List Nat} (h : OSl sz ro w A n c l fp) (hnd : fp.Nodup) {k : Nat} {x : α} (hx : l[k]? = some x) :
    ∃ g o t cs es f, A = some ⟨g, o, none⟩ ∧ Blk w g t cs ∧ g ∈ fp ∧ g ∉ f ∧ (∀ b, b ∈ f → b ∈ fp) ∧ f.Nodup ∧ es.length = sz ∧ (∀ (j : Nat) (v : Value), es[j]? = some v → cs[o + k * sz + j]? = some v) ∧ ro w es x f ∧
      ∀ (w' : World) (cs' : Array Value) (es' : List Value) (x' : α), Touch (g :: f) w w' → Blk w' g t cs' → (∀ i, ¬ (o + k * sz ≤ i ∧ i < o + k * sz + sz) → cs'[i]? = cs[i]?) → es'.length = sz → (∀ (j : Nat) (v : Value), es'[j]? = some v → cs'[o + k * sz + j]? = some v) →
        ro w' es' x' f → OSl sz ro w' A n c (l.set k x') fp := by
  have hk := (List.getElem?_eq_some_iff.1 hx).1
  rcases h.own with ⟨rfl, _⟩ | ⟨g, o, t, cs, fps, rfl, hb, rfl, hl, hel⟩
  · simp at hx
  obtain ⟨es, f, hf, he, hc, hr⟩ := hel k x hx
  have hgn := (List.nodup_cons.1 hnd).1
  have hfn := (List.nodup_cons.1 hnd).2
  have hin : ∀ b, b ∈ f → b ∈ fps.flatten := fun b hb' => mem_flatten_at hf hb'
  have hpair : ∀ (j : Nat) (f' : List Nat), j ≠ k → fps[j]? = some f' → ∀ b, b ∈ f' → b ∉ f := by
    intro j f' hjk hf' b hb1 hb2
    have hp := List.pairwise_iff_getElem.1 (List.pairwise_flatten.1 hfn).2
    obtain ⟨hj, rfl⟩ := List.getElem?_eq_some_iff.1 hf'
    obtain ⟨hk', rfl⟩ := List.getElem?_eq_some_iff.1 hf
    rcases Nat.lt_or_gt_of_ne hjk with hlt | hgt
    · exact hp j k hj hk' hlt b hb1 b hb2 rfl
    · exact hp k j hk' hj hgt b hb2 b hb1 rfl
  refine ⟨g, o, t, cs, es, f, rfl, hb, by simp, fun hg => hgn (hin g hg), fun b hb' => List.mem_cons_of_mem _ (hin b hb'), (List.pairwise_flatten.1 hfn).1 f (List.mem_of_getElem? hf), he, hc, hr, ?_⟩
  intro w' cs' es' x' hT hB' hsame he' hc' hr'
  refine ⟨by rw [List.length_set]; exact h.len, h.cap, h.max, .inr ⟨g, o, t, cs', fps, rfl, hB', rfl, by rw [List.length_set]; exact hl, fun j y hy => ?_⟩⟩
  by_cases e : j = k
  · subst e
    rw [List.getElem?_set_self hk] at hy
    obtain rfl := Option.some.inj hy
    exact ⟨es', f, hf, he', hc', hr'⟩
  · rw [List.getElem?_set_ne (Ne.symm e)] at hy
    obtain ⟨es2, f2, hf2, he2, hc2, hr2⟩ := hel j y hy
    refine ⟨es2, f2, hf2, he2, fun i v hv => ?_, ?_⟩
    · have hi : i < sz := by rw [← he2]; exact (List.getElem?_eq_some_iff.1 hv).1
      rw [hsame]
      · exact hc2 i v hv
      · rintro ⟨h1, h2⟩
        rcases Nat.lt_or_gt_of_ne e with hlt | hgt
        · have : (j + 1) * sz ≤ k * sz := Nat.mul_le_mul_right sz (by omega)
          rw [Nat.add_mul] at this; omega
        · have : (k + 1) * sz ≤ j * sz := Nat.mul_le_mul_right sz (by omega)
          rw [Nat.add_mul] at this; omega
    · refine OStays.keep (fun b hb' => hT.block b (OStays.lt hr2 b hb') ?_) hr2
      intro hm
      rcases List.mem_cons.1 hm with rfl | hm
      · exact hgn (mem_flatten_at hf2 hb')
      · exact hpair j f2 e hf2 b hb' hm
end Go.Proofs.Ytaopadffabbjiaa
