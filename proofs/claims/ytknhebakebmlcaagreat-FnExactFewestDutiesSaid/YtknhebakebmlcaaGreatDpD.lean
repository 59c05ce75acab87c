/-
 FewestDuties: a slice of duties that grows by append; the pieces as rows of their own. Lemmas only.
-/
import Derived.Test.YtknhebakebmlcaaGreatDpS
import Derived.Test.YtknhebakebmlcaaGreatDpC
import Derived.Test.YtknhebakebmlcaaGreatORow
namespace Go.Proofs.YtknhebakebmlcaaGreat
open Go Go.RowKit
set_option linter.unusedVariables false
set_option maxRecDepth 100000
set_option linter.unusedSimpArgs false
def blksD (L : List DutE) : List Nat := (L.map (·.2.2)).flatten
theorem blksD_app (L K : List DutE) : blksD (L ++ K) = blksD L ++ blksD K := by unfold blksD; rw [List.map_append, List.flatten_append]
theorem blksD_mem {L : List DutE} {x : DutE} (hx : x ∈ L) {g : Nat} (hg : g ∈ x.2.2) : g ∈ blksD L := List.mem_flatten.2 ⟨x.2.2, List.mem_map.2 ⟨x, hx, rfl⟩, hg⟩
theorem blksD_perm {L K : List DutE} (h : L.Perm K) : (blksD L).Perm (blksD K) := (h.map _).flatten
/-- The slice ov holds just these duties, each in blocks of its own. -/
structure DutS (w : World) (base : Nat) (e : TypeId) (ov : Value) (L : List DutE) : Prop where
 own : w.ownsRow base e 1 ov L.length (L.map (·.1))
 el : ∀ x, x ∈ L → ∃ A n c, x.1 = .slice A n c ∧ DutyOw w A n c ⟨x.2.1⟩ x.2.2
 nd : (blksD L).Nodup
 far : ∀ g, ov.ownBlock = some g → g ∉ blksD L
section
variable {w W : World} {base : Nat} {e : TypeId} {ov : Value} {L : List DutE}
theorem DutS.lt (h : DutS w base e ov L) : ∀ g, g ∈ blksD L → g < w.heap.size := by
 intro g hg
 unfold blksD at hg
 obtain ⟨f, hf, hgf⟩ := List.mem_flatten.1 hg
 obtain ⟨x, hx, rfl⟩ := List.mem_map.1 hf
 obtain ⟨A, n, c, _, ho⟩ := h.el x hx
 exact ho.lt g hgf
theorem DutS.later (h : DutS w base e ov L) (hl : Later w W) : DutS W base e ov L :=
 ⟨ownsRow_later h.own hl, fun x hx => by obtain ⟨A, n, c, a, b⟩ := h.el x hx; exact ⟨A, n, c, a, b.later hl⟩, h.nd, h.far⟩
theorem own_touch {fp : List Nat} {n : Nat} {xs : List Value} {sz : Nat} (h : w.ownsRow base e sz ov n xs) (hT : Touch fp w W) (hf : ∀ g, g ∈ fp → g < base) : W.ownsRow base e sz ov n xs := by
 have hlt := h.lt
 obtain ⟨h1, h2⟩ := h
 refine ⟨h1, ?_⟩
 rcases h2 with h2 | ⟨g, cap, cur, rfl, h3, h4, h5⟩
 ·exact .inl h2
 ·exact .inr ⟨g, cap, cur, rfl, h3, (hT.block g (hlt g rfl).2 (fun hm => by have := hf g hm; omega)).trans h4, h5⟩
theorem DutS.touch {fp : List Nat} (h : DutS w base e ov L) (hT : Touch fp w W) (hf : ∀ g, g ∈ fp → g < base) (hd : ∀ g, g ∈ fp → g ∉ blksD L) : DutS W base e ov L :=
 ⟨own_touch h.own hT hf, fun x hx => by obtain ⟨A, n, c, a, b⟩ := h.el x hx; exact ⟨A, n, c, a, b.touch hT fun g hg hm => hd g hm (blksD_mem hx hg)⟩, h.nd, h.far⟩
theorem DutS.nil_ (w : World) (base : Nat) (e : TypeId) : DutS w base e (.slice none 0 0) [] :=
 ⟨World.ownsRow_nil w base e 1, fun x hx => by simp at hx, by simp [blksD], by simp [blksD]⟩
theorem DutS.shape (h : DutS w base e ov L) : (ov = .slice none 0 0 ∧ L = []) ∨ ∃ g cap, ov = .slice (some ⟨g, 0, none⟩) L.length cap ∧ base ≤ g ∧ RowE e cap w g L := by
 rcases h.own.2 with ⟨rfl, hn⟩ | ⟨g, cap, cur, rfl, hb, hg, hnc, hcm, hsz, htk⟩
 ·exact .inl ⟨rfl, List.length_eq_zero_iff.1 hn⟩
 ·refine .inr ⟨g, cap, rfl, hb, cur, hg, by rw [hsz, Nat.mul_one], fun k x hx => ?_⟩
  have h1 : (L.map (·.1))[k]? = some x.1 := by rw [List.getElem?_map, hx]; rfl
  rw [← htk, List.getElem?_take] at h1
  split at h1
  ·simpa using h1
  ·cases h1
/-- .. and told anew in another order. -/
theorem DutS.sorted {g cap : Nat} {K : List DutE} (h : DutS w base e (.slice (some ⟨g, 0, none⟩) L.length cap) L) (hR : RowE e cap W g K) (hp : K.Perm L) (hT : Touch [g] w W) : DutS W base e (.slice (some ⟨g, 0, none⟩) L.length cap) K := by
 have hpb := blksD_perm hp
 have hfar : g ∉ blksD L := h.far g rfl
 refine ⟨?_, fun x hx => ?_, hpb.nodup_iff.2 h.nd, fun g' hg' hm => ?_⟩
 ·obtain ⟨cs, r1, r2, r3⟩ := hR
  obtain ⟨_, h2⟩ := h.own
  rcases h2 with ⟨h3, _⟩ | ⟨g', cap', cur, h3, hbg, hg, hnc, hcm, hsz, htk⟩
  ·cases h3
  ·cases h3
   have hl := hp.length_eq
   refine ⟨by simp, .inr ⟨g, cap, cs, by rw [hl], hbg, r1, by rw [hl]; exact hnc, hcm, by rw [r2, Nat.mul_one], ?_⟩⟩
   apply List.ext_getElem?
   intro k
   rw [List.getElem?_take, List.getElem?_map]
   split
   ·rename_i hk
    rw [Nat.mul_one] at hk
    rw [List.getElem?_eq_getElem hk]
    have := r3 k _ (List.getElem?_eq_getElem hk)
    simpa using this
   ·rename_i hk
    rw [Nat.mul_one] at hk
    rw [List.getElem?_eq_none (by omega)]
    rfl
 ·obtain ⟨A, n, c, a, b⟩ := h.el x (hp.mem_iff.1 hx)
  exact ⟨A, n, c, a, b.touch hT fun z hz hm => hfar (by rw [List.mem_singleton.1 hm] at hz; exact blksD_mem (hp.mem_iff.1 hx) hz)⟩
 ·have e1 : g = g' := by simpa [Value.ownBlock] using hg'
  subst e1
  exact hfar (hpb.mem_iff.1 hm)
/-- append(own, duty) as one operation. -/
theorem wp_app_D {P : Program} {o : Oper} {a : Act} {K : Act → World → Prop} {Q : Exit → Act → World → Prop} (s x : Operand) (t : TypeId)
  (ho : o.op = .call { callee := .builtin .append, args := #[s, x], argTypes := #[t, t] }) {e : TypeId} {bytes : Nat} (ht : P.underlying t = some (.slice e))
  (hi : (P.info? e).map (fun i => (i.zero, i.size, i.bytes)) = some (some (.agg #[.slice none 0 0]), 1, bytes)) (hby : bytes ≤ 4096)
  {w1 W : World} {base : Nat} {v : Value} {L : List DutE} (hs : a.eval s = v) (hO : DutS w1 base e v L) (h1W : Later w1 W) (hb1 : base ≤ w1.heap.size)
  {A : Option Addr} {n c : Nat} {d : List (List Int)} {f : List Nat} (hrow : DutyOw W A n c ⟨d⟩ f) (hnd : f.Nodup) (hdj : ∀ g, g ∈ f → g ∉ blksD L) (hov : ∀ g, v.ownBlock = some g → g ∉ f) {te : TypeId}
  (hx : a.eval x = .slice (some ⟨W.heap.size, 0, none⟩) 1 1) (hn : L.length ≤ 1073741824)
  (h : ∀ v' w', DutS w' base e v' (L ++ [(.slice A n c, d, f)]) → W.grownBy w' v.ownBlock → K (a.put o.dst v') w') : o.wp P a (W.alloc (.cells #[.slice A n c] te)) K Q := by
 obtain ⟨i, i1, i2, i3, i4⟩ := info_parts hi
 have q1 := hO.own
 have hlt := hO.lt
 have hsz := h1W.size
 have hown := (ownsRow_later q1 h1W).alloc (.cells #[.slice A n c] te)
 have hb : (L.length + 1) * bytes ≤ 140737488355328 := by
  have : (L.length + 1) * bytes ≤ 1073741825 * 4096 := Nat.mul_le_mul (by omega) hby
  omega
 have hnews : ∀ j u, [Value.slice A n c][j]? = some u → (W.alloc (.cells #[.slice A n c] te)).cell? ((⟨W.heap.size, 0, none⟩ : Addr).add j) = some u := fun j u hu => by
  have hadd : (⟨W.heap.size, 0, none⟩ : Addr).add j = ⟨W.heap.size, j, none⟩ := by unfold Addr.add; split <;> simp_all
  rw [hadd, World.cell?_alloc_new]
  simpa using hu
 have h1 : ∀ u ∈ [Value.slice A n c], u.oneCell' = true := by
  intro u hu
  simp at hu
  subst hu
  rfl
 obtain ⟨v', w', hr, r2, r3, r4⟩ := run_append_own (P := P) (W.alloc (.cells #[.slice A n c] te)) base t o.type e i (.agg #[.slice none 0 0]) 1 bytes ht i1 i2 i3 i4 rfl (by decide) v L.length (L.map (·.1)) hown ⟨W.heap.size, 0, none⟩ 1 1 [.slice A n c] (by simp) hnews h1 (by unfold maxLen; omega) hb (by simp; omega)
 have hbl := append_block (P := P) ht i1 i2 (by rw [i3]; exact hown) (news := [.slice A n c]) (by rw [i3]; rfl) hnews h1 (by decide) (by unfold maxLen; omega) (by rw [i4]; exact hb) hr
 have hol : ∀ g, v.ownBlock = some g → g < w1.heap.size := fun g hg => (q1.lt g hg).2
 have keepOld : ∀ g, g < W.heap.size → v.ownBlock ≠ some g → w'.heap[g]? = W.heap[g]? := fun g hg hne =>
  (r3.block g (by simp; omega) (fun e => hne e.symm)).trans (heap_alloc_old W _ hg)
 have hfl : ∀ g, g ∈ f → g < W.heap.size := hrow.lt
 unfold Oper.wp execOp
 simp only [ho, resolve, invoke, builtin, Sem.run_bind, Sem.run_pure, Result.andThen_ok, List.map_toArray, List.map_cons, List.map_nil, hs, hx, hr]
 have hbk : blksD [((.slice A n c, d, f) : DutE)] = f := by simp [blksD]
 refine h v' w' ⟨by simpa using r2, fun z hz => ?_, ?_, fun g hg hm => ?_⟩ ?_
 ·rcases List.mem_append.1 hz with hz | hz
  ·obtain ⟨A2, n2, c2, a1, a2⟩ := hO.el z hz
   exact ⟨A2, n2, c2, a1, (a2.later h1W).keep fun g hg => keepOld g (by have := a2.lt g hg; omega) fun hv => hO.far g hv (blksD_mem hz hg)⟩
  ·simp only [List.mem_singleton] at hz
   subst hz
   exact ⟨A, n, c, rfl, hrow.keep fun g hg => keepOld g (hfl g hg) fun hv => hov g hv hg⟩
 ·rw [blksD_app, hbk, List.nodup_append]
  exact ⟨hO.nd, hnd, fun x hx y hy e => hdj y hy (e ▸ hx)⟩
 ·rw [blksD_app, hbk] at hm
  rcases hbl g hg with hv | rfl
  ·rcases List.mem_append.1 hm with hm | hm
   ·exact hO.far g hv hm
   ·exact hov g hv hm
  ·have hsa : (W.alloc (.cells #[.slice A n c] te)).heap.size = W.heap.size + 1 := by simp
   rcases List.mem_append.1 hm with hm | hm
   ·have := hlt _ hm; omega
   ·have := hfl _ hm; omega
 ·exact ⟨r3.os, r3.tape, r3.output, by have := r3.size; simp at this; omega, fun g hg hne => (r3.block g (by simp; omega) hne).trans (heap_alloc_old W _ hg)⟩
theorem wpList_app_D {P : Program} {ops : Array Oper} {rest : List Oper} {o : Oper} {a : Act} {Q : Exit → Act → World → Prop} (hgd : o.guard = none) (s x : Operand) (t : TypeId)
  (ho : o.op = .call { callee := .builtin .append, args := #[s, x], argTypes := #[t, t] }) {e : TypeId} {bytes : Nat} (ht : P.underlying t = some (.slice e))
  (hi : (P.info? e).map (fun i => (i.zero, i.size, i.bytes)) = some (some (.agg #[.slice none 0 0]), 1, bytes)) (hby : bytes ≤ 4096)
  {w1 W : World} {base : Nat} {v : Value} {L : List DutE} (hs : a.eval s = v) (hO : DutS w1 base e v L) (h1W : Later w1 W) (hb1 : base ≤ w1.heap.size)
  {A : Option Addr} {n c : Nat} {d : List (List Int)} {f : List Nat} (hrow : DutyOw W A n c ⟨d⟩ f) (hnd : f.Nodup) (hdj : ∀ g, g ∈ f → g ∉ blksD L) (hov : ∀ g, v.ownBlock = some g → g ∉ f) {te : TypeId}
  (hx : a.eval x = .slice (some ⟨W.heap.size, 0, none⟩) 1 1) (hn : L.length ≤ 1073741824)
  (h : ∀ v' w', DutS w' base e v' (L ++ [(.slice A n c, d, f)]) → W.grownBy w' v.ownBlock → wpList P ops Q rest (a.put o.dst v') w') : wpList P ops Q (o :: rest) a (W.alloc (.cells #[.slice A n c] te)) :=
 wpList_plain hgd fun _ hK => wp_app_D s x t ho ht hi hby hs hO h1W hb1 hrow hnd hdj hov hx hn fun v' w' h2 h3 => hK _ _ (h v' w' h2 h3)
end
def ownL (v : Value) : List Nat := match v.ownBlock with | none => [] | some g => [g]
theorem ownL_mem {v : Value} {g : Nat} (h : g ∈ ownL v) : v.ownBlock = some g := by
 unfold ownL at h
 split at h
 ·cases h
 ·rename_i k e; rw [List.mem_singleton.1 h]; exact e
theorem Touch.grownL {w W : World} {v : Value} (h : w.grownBy W v.ownBlock) : Touch (ownL v) w W :=
 ⟨h.os, h.tape, h.output, h.size, fun k hk hn => h.block k hk fun e => hn (by unfold ownL; rw [← e]; simp)⟩
/-! ### The world cut below a mark -/
def cutW (w : World) (b : Nat) : World := { w with heap := w.heap.extract 0 b }
theorem cutW_size {w : World} {b : Nat} (hb : b ≤ w.heap.size) : (cutW w b).heap.size = b := by simp [cutW]; omega
theorem cutW_at {w : World} {b k : Nat} (hk : k < b) : (cutW w b).heap[k]? = w.heap[k]? := by simp only [cutW, Array.getElem?_extract]; split <;> first | (congr 1; omega) | (rw [Array.getElem?_eq_none]; omega)
theorem cutW_later {w : World} {b : Nat} (hb : b ≤ w.heap.size) : Later (cutW w b) w :=
 ⟨⟨rfl, rfl, rfl, by rw [cutW_size hb]; exact hb, fun k hk => by rw [cutW_size hb] at hk; exact (cutW_at hk).symm⟩⟩
theorem cutW_cell {w : World} {b g o : Nat} (hb : b ≤ w.heap.size) (hg : g < b) : (cutW w b).cell? ⟨g, o, none⟩ = w.cell? ⟨g, o, none⟩ :=
 ((cutW_later hb).below.cell (p := ⟨g, o, none⟩) (by rw [cutW_size hb]; exact hg)).symm
/-- Pieces in blocks of their own, all in [lo, hi): fps tells which. -/
structure PcsO (w : World) (lo hi : Nat) (pA : Option Addr) (n c : Nat) (ps : List (List Int)) (fps : List (List Nat)) : Prop where
 len : n = ps.length
 cap : n ≤ c
 max : c ≤ 9223372036854775807
 flen : fps.length = ps.length
 at_ : ∀ (k : Nat) (x : List Int), ps[k]? = some x → ∃ b o A n' c' f, pA = some ⟨b, o, none⟩ ∧ w.cell? ⟨b, o + k, none⟩ = some (.slice A n' c') ∧ fps[k]? = some f ∧ OSl 1 oInt w A n' c' x f ∧ lo ≤ b ∧ b < hi
 nd : fps.flatten.Nodup
 lo_ : ∀ g, g ∈ fps.flatten → lo ≤ g
 hi_ : ∀ g, g ∈ fps.flatten → g < hi
section
variable {w W : World} {lo hi : Nat} {pA : Option Addr} {n c : Nat} {ps : List (List Int)} {fps : List (List Nat)}
theorem PcsO.of {fp : List Nat} (h : OSl 1 (oSl 1 oInt) w pA n c ps fp) (hn : fp.Nodup) (hlo : ∀ g, g ∈ fp → lo ≤ g) (hhi : ∀ g, g ∈ fp → g < hi) : ∃ fps, PcsO w lo hi pA n c ps fps := by
 rcases h.own with ⟨rfl, rfl⟩ | ⟨g, o, t, cs, fps, rfl, hb, rfl, hl, hel⟩
 ·exact ⟨[], h.len, h.cap, h.max, rfl, fun k x hx => by simp at hx, by simp, by simp, by simp⟩
 ·refine ⟨fps, h.len, h.cap, h.max, hl, fun k x hx => ?_, (List.nodup_cons.1 hn).2, fun g' hg' => hlo g' (by simp [hg']), fun g' hg' => hhi g' (by simp [hg'])⟩
  obtain ⟨es, f, hf, he, hc, hro⟩ := hel k x hx
  obtain ⟨A, n', c', e, ho⟩ := hro
  subst e
  exact ⟨g, o, A, n', c', f, rfl, (hb.cell _).trans (by simpa using hc 0 _ rfl), hf, ho, hlo g (by simp), hhi g (by simp)⟩
theorem PcsO.touch {fp : List Nat} (h : PcsO w lo hi pA n c ps fps) (hT : Touch fp w W) (hf : ∀ z, z ∈ fp → z < lo ∨ hi ≤ z) : PcsO W lo hi pA n c ps fps :=
 { h with at_ := fun k x hx => (by
   obtain ⟨b, o, A, n', c', f, h1, h2, h3, h4, h5, h6⟩ := h.at_ k x hx
   refine ⟨b, o, A, n', c', f, h1, ?_, h3, h4.touch hT fun g hg hm => ?_, h5, h6⟩
   ·have hb := World.block_lt_of_cell? w _ h2
    have e := hT.block b hb (fun hm => by rcases hf b hm with h7 | h7 <;> omega)
    rw [← h2]
    simp only [World.cell?, e]
   ·have := h.lo_ g (mem_flatten_at h3 hg)
    have := h.hi_ g (mem_flatten_at h3 hg)
    rcases hf g hm with h7 | h7 <;> omega) }
theorem PcsO.cut {x : Nat} (h : PcsO w lo hi pA n c ps fps) (h1 : hi ≤ x) (h2 : x ≤ w.heap.size) : PcsO (cutW w x) lo hi pA n c ps fps :=
 { h with at_ := fun k y hy => (by
   obtain ⟨b, o, A, n', c', f, g1, g2, g3, g4, g5, g6⟩ := h.at_ k y hy
   exact ⟨b, o, A, n', c', f, g1, (cutW_cell h2 (by omega)).trans g2, g3, g4.keep fun g hg => cutW_at (by have := h.hi_ g (mem_flatten_at g3 hg); omega), g5, g6⟩) }
end
theorem nodup_at {fps : List (List Nat)} (h : fps.flatten.Nodup) {i k : Nat} {f f' : List Nat} (hi : fps[i]? = some f) (hk : fps[k]? = some f') : f.Nodup ∧ (i ≠ k → ∀ g, g ∈ f → g ∉ f') := by
 induction fps generalizing i k f f' with
 | nil => simp at hi
 | cons a l ih =>
  rw [List.flatten_cons, List.nodup_append] at h
  obtain ⟨h1, h2, h3⟩ := h
  cases i with
  | zero =>
   simp at hi; subst hi
   refine ⟨h1, fun hne g hg hg' => ?_⟩
   cases k with
   | zero => exact hne rfl
   | succ k => exact h3 g hg g (mem_flatten_at (k := k) (f := f') (by simpa using hk) hg') rfl
  | succ i =>
   cases k with
   | zero =>
    simp at hk; subst hk
    refine ⟨(ih (i := i) (k := i) (f := f) (f' := f) h2 (by simpa using hi) (by simpa using hi)).1, fun hne g hg hg' => ?_⟩
    exact h3 g hg' g (mem_flatten_at (k := i) (f := f) (by simpa using hi) hg) rfl
   | succ k =>
    obtain ⟨q1, q2⟩ := ih h2 (by simpa using hi) (by simpa using hk)
    exact ⟨q1, fun hne => q2 (by omega)⟩
theorem duty_own1 {W : World} {z : Nat} {t : TypeId} {A : Option Addr} {n c : Nat} {p : List Int} {f : List Nat} (hb : Blk W z t #[.slice A n c]) (hi : OSl 1 oInt W A n c p f) : DutyOw W (some ⟨z, 0, none⟩) 1 1 ⟨[p]⟩ (z :: f) :=
 ⟨⟨rfl, Nat.le_refl _, by omega, .inr ⟨z, 0, t, _, [f], rfl, hb, by simp, rfl, fun k x hx => by
  match k, hx with
  | 0, hx =>
   simp at hx; subst hx
   exact ⟨[.slice A n c], f, rfl, rfl, fun j v hv => by
    match j, hv with
    | 0, hv => simp at hv; subst hv; rfl, A, n, c, rfl, hi⟩⟩⟩⟩
theorem duty_own2 {W : World} {z : Nat} {t : TypeId} {A A' : Option Addr} {n c n' c' : Nat} {p q : List Int} {f f' : List Nat} (hb : Blk W z t #[.slice A n c, .slice A' n' c']) (hi : OSl 1 oInt W A n c p f) (hi' : OSl 1 oInt W A' n' c' q f') : DutyOw W (some ⟨z, 0, none⟩) 2 2 ⟨[p, q]⟩ (z :: (f ++ f')) :=
 ⟨⟨rfl, Nat.le_refl _, by omega, .inr ⟨z, 0, t, _, [f, f'], rfl, hb, by simp, rfl, fun k x hx => by
  match k, hx with
  | 0, hx =>
   simp at hx; subst hx
   exact ⟨[.slice A n c], f, rfl, rfl, fun j v hv => by
    match j, hv with
    | 0, hv => simp at hv; subst hv; rfl, A, n, c, rfl, hi⟩
  | 1, hx =>
   simp at hx; subst hx
   exact ⟨[.slice A' n' c'], f', rfl, rfl, fun j v hv => by
    match j, hv with
    | 0, hv => simp at hv; subst hv; rfl, A', n', c', rfl, hi'⟩⟩⟩⟩
/-- What is handed back. -/
theorem DutS.shut {w : World} {base : Nat} {e : TypeId} {ov : Value} {L : List DutE} (h : DutS w base e ov L) {lo : Nat} (hlo : ∀ g, g ∈ blksD L → lo ≤ g) (hb : lo ≤ base) :
  ∃ A c fp, ov = .slice A L.length c ∧ OSl 1 oDuty w A L.length c (L.map fun x => Duty.mk x.2.1) fp ∧ fp.Nodup ∧ ∀ g, g ∈ fp → lo ≤ g := by
 rcases h.own.2 with ⟨rfl, hn⟩ | ⟨g, cap, cur, rfl, hbg, hg, hnc, hcm, hsz, htk⟩
 ·have : L = [] := List.length_eq_zero_iff.1 hn
  subst this
  exact ⟨none, 0, [], rfl, OSl.nil_ _, by simp, by simp⟩
 ·refine ⟨some ⟨g, 0, none⟩, cap, g :: blksD L, rfl, ⟨by simp, hnc, by simpa [maxLen] using hcm, .inr ⟨g, 0, e, cur, L.map (·.2.2), rfl, hg, rfl, by simp, fun k x hx => ?_⟩⟩, ?_, ?_⟩
  ·rw [List.getElem?_map, Option.map_eq_some_iff] at hx
   obtain ⟨y, hy, rfl⟩ := hx
   obtain ⟨A, n, c, a1, a2⟩ := h.el y (List.mem_of_getElem? hy)
   refine ⟨[.slice A n c], y.2.2, by rw [List.getElem?_map, hy]; rfl, rfl, fun j u hu => ?_, A, n, c, _, rfl, a2, rfl⟩
   match j, hu with
   | 0, hu =>
    simp at hu
    subst hu
    have h1 : (L.map (·.1))[k]? = some (.slice A n c) := by rw [List.getElem?_map, hy, ← a1]; rfl
    rw [← htk, List.getElem?_take] at h1
    split at h1
    ·simpa using h1
    ·cases h1
  ·exact List.nodup_cons.2 ⟨h.far g rfl, h.nd⟩
  ·intro g' hg'
   rcases List.mem_cons.1 hg' with rfl | hg'
   ·omega
   ·exact hlo _ hg'
end Go.Proofs.YtknhebakebmlcaaGreat
