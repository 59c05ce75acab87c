/-
  One element of an owned slice is replaced by another, in blocks of its own.
-/
import Derived.Test.YtbkeccpjcmhhjaaNest
namespace Go.Proofs.Ytbkeccpjcmhhjaa
open Go Go.RowKit
set_option linter.unusedVariables false
set_option maxRecDepth 100000
theorem nodup_set_flatten {fps : List (List Nat)} {k : Nat} {f' : List Nat} {N : Nat} (hnd : fps.flatten.Nodup) (hf : f'.Nodup) (hlt : ∀ b, b ∈ fps.flatten → b < N) (hlo : ∀ b, b ∈ f' → N ≤ b) : (fps.set k f').flatten.Nodup := by
  obtain ⟨h1, h2⟩ := List.pairwise_flatten.1 hnd
  refine List.pairwise_flatten.2 ⟨fun l hl => ?_, ?_⟩
  · rcases List.mem_or_eq_of_mem_set hl with h | rfl
    · exact h1 l h
    · exact hf
  · rw [List.pairwise_iff_getElem] at h2 ⊢
    intro i j hi hj hij x hx y hy
    simp only [List.length_set] at hi hj
    have mem : ∀ (m : Nat) (hm : m < fps.length) (b : Nat), b ∈ fps[m] → b ∈ fps.flatten := fun m hm b hb => mem_flatten_at (List.getElem?_eq_getElem hm) hb
    rw [List.getElem_set] at hx hy
    split at hx <;> split at hy
    · omega
    · intro e; subst e; have := hlo x hx; have := hlt x (mem j hj x hy); omega
    · intro e; subst e; have := hlo x hy; have := hlt x (mem i hi x hx); omega
    · exact h2 i j hi hj hij x hx y hy
theorem mem_set_flatten {fps : List (List Nat)} {k : Nat} {f' : List Nat} {b : Nat} (h : b ∈ (fps.set k f').flatten) : b ∈ fps.flatten ∨ b ∈ f' := by
  obtain ⟨f, hf, hb⟩ := List.mem_flatten.1 h
  rcases List.mem_or_eq_of_mem_set hf with h | rfl
  · exact .inl (List.mem_flatten.2 ⟨f, h, hb⟩)
  · exact .inr hb
theorem OSl.replace {α : Type} {sz : Nat} {ro : ORep α} [OStays ro] {w : World} {A : Option Addr} {n c : Nat} {l : List α} {fp : List Nat} (h : OSl sz ro w A n c l fp) (hnd : fp.Nodup) {k : Nat} {x : α} (hx : l[k]? = some x) :
    ∃ g o t cs, A = some ⟨g, o, none⟩ ∧ Blk w g t cs ∧ g ∈ fp ∧ (∀ j, j < sz → o + k * sz + j < cs.size) ∧
      ∀ (w1 w2 : World) (cs' : Array Value) (es' : List Value) (x' : α) (f' : List Nat), Later w w1 → ro w1 es' x' f' → f'.Nodup → (∀ b, b ∈ f' → w.heap.size ≤ b) → Touch [g] w1 w2 → Blk w2 g t cs' → (∀ i, ¬ (o + k * sz ≤ i ∧ i < o + k * sz + sz) → cs'[i]? = cs[i]?) →
        es'.length = sz → (∀ (j : Nat) (v : Value), es'[j]? = some v → cs'[o + k * sz + j]? = some v) →
        ∃ fp', OSl sz ro w2 A n c (l.set k x') fp' ∧ fp'.Nodup ∧ ∀ b, b ∈ fp' → b ∈ fp ∨ b ∈ f' := by
  have hk := (List.getElem?_eq_some_iff.1 hx).1
  have hltw := h.lt
  rcases h.own with ⟨rfl, _⟩ | ⟨g, o, t, cs, fps, rfl, hb, rfl, hl, hel⟩
  · simp at hx
  have hgn := (List.nodup_cons.1 hnd).1
  have hfn := (List.nodup_cons.1 hnd).2
  obtain ⟨es0, f0, hf0, he0, hc0, hr0⟩ := hel k x hx
  refine ⟨g, o, t, cs, rfl, hb, by simp, fun j hj => ?_, ?_⟩
  · have := hc0 j es0[j] (List.getElem?_eq_getElem (by omega))
    exact (Array.getElem?_eq_some_iff.1 this).1
  intro w1 w2 cs' es' x' f' hL hro hnd' hlo hT hB' hsame he' hc'
  have hgf : g ∉ f' := fun hg => by have := hlo g hg; have := hb.lt; omega
  have hf1 : ∀ b, b ∈ f' → b < w1.heap.size := OStays.lt hro
  have hro2 : ro w2 es' x' f' := OStays.keep (fun b hb' => hT.block b (hf1 b hb') (by simpa using fun e : b = g => hgf (e ▸ hb'))) hro
  refine ⟨g :: (fps.set k f').flatten, ⟨by rw [List.length_set]; exact h.len, h.cap, h.max, .inr ⟨g, o, t, cs', fps.set k f', rfl, hB', rfl, by rw [List.length_set, List.length_set]; exact hl, fun j y hy => ?_⟩⟩, List.nodup_cons.2 ⟨fun hg => ?_, nodup_set_flatten (N := w.heap.size) hfn hnd' (fun b hb' => hltw b (List.mem_cons_of_mem _ hb')) hlo⟩, fun b hb' => ?_⟩
  · by_cases e : j = k
    · subst e
      rw [List.getElem?_set_self hk] at hy
      obtain rfl := Option.some.inj hy
      exact ⟨es', f', by rw [List.getElem?_set_self (by rw [hl]; exact hk)], he', hc', hro2⟩
    · rw [List.getElem?_set_ne (Ne.symm e)] at hy
      obtain ⟨es2, f2, hf2, he2, hc2, hr2⟩ := hel j y hy
      refine ⟨es2, f2, by rw [List.getElem?_set_ne (Ne.symm e)]; exact hf2, he2, fun i v hv => ?_, ?_⟩
      · have hi : i < sz := by rw [← he2]; exact (List.getElem?_eq_some_iff.1 hv).1
        rw [hsame]
        · exact hc2 i v hv
        · rintro ⟨h1, h2⟩
          rcases Nat.lt_or_gt_of_ne e with hlt | hgt
          · have : (j + 1) * sz ≤ k * sz := Nat.mul_le_mul_right sz (by omega)
            rw [Nat.add_mul] at this; omega
          · have : (k + 1) * sz ≤ j * sz := Nat.mul_le_mul_right sz (by omega)
            rw [Nat.add_mul] at this; omega
      · have hr1 : ro w1 es2 y f2 := OStays.keep (fun b hb' => hL.below.block b (OStays.lt hr2 b hb')) hr2
        refine OStays.keep (fun b hb' => hT.block b (OStays.lt hr1 b hb') ?_) hr1
        simpa using fun e : b = g => hgn (e ▸ mem_flatten_at hf2 hb')
  · rcases mem_set_flatten hg with h' | h'
    · exact hgn h'
    · exact hgf h'
  · rcases List.mem_cons.1 hb' with rfl | hb'
    · exact .inl (by simp)
    · rcases mem_set_flatten hb' with h' | h'
      · exact .inl (List.mem_cons_of_mem _ h')
      · exact .inr h'
end Go.Proofs.Ytbkeccpjcmhhjaa
