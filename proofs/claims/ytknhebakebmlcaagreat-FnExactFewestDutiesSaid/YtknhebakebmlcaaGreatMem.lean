/-
 Memory: how slices of numbers, of rows and of structs read, and what stays as it was in a later world. Lemmas only.
-/
import Derived.WalkKit
import Derived.WalkLawsBesides
import Derived.WalkSpells
import Derived.Laws.OwnMore
import Derived.Deep.Draws
import Derived.Deep.Slices
import Derived.Laws.MakeOwn
import Derived.Laws.Rows
import Derived.Test.YtknhebakebmlcaaGreatRg
namespace Go.Proofs.YtknhebakebmlcaaGreat
open Go Go.RowKit
set_option linter.unusedVariables false
set_option maxRecDepth 100000

/-- Every block that was there in w is in W as it was. -/
class Later (w W : World) : Prop where
 below : Below w.heap.size w W
/-- The block b is no block of w. -/
class New (w : World) (b : Nat) : Prop where
 le : w.heap.size ≤ b

section
variable {w W W1 : World}
theorem Later.size (h : Later w W) : w.heap.size ≤ W.heap.size := h.below.size
instance Later.rfl_ : Later w w := ⟨Below.refl _ _⟩
theorem Later.trans (h : Later w W) (k : Later W W1) : Later w W1 := ⟨h.below.trans (k.below.mono h.size)⟩
instance Later.alloc_ [h : Later w W] (o : Obj) : Later w (W.alloc o) := ⟨h.below.alloc h.size o⟩
instance Later.drew_ [h : Later w W] : Later w W.drew := ⟨h.below.drew⟩
instance Later.drewN_ [h : Later w W] (n : Nat) : Later w (W.drewN n) := ⟨⟨h.below.os, h.below.tape, h.below.output, h.below.size, h.below.block⟩⟩
instance New.self_ : New w w.heap.size := ⟨Nat.le_refl _⟩
instance New.later_ [h : Later w W] : New w W.heap.size := ⟨h.size⟩
instance New.add_ {b : Nat} [h : New w b] (k : Nat) : New w (b + k) := ⟨Nat.le_trans h.le (Nat.le_add_right _ _)⟩
instance New.alloc_ {b : Nat} [h : New w b] (o : Obj) : New (w.alloc o) (b + 1) := ⟨by have := h.le; simp; omega⟩
instance Later.setCell_ [h : Later w W] {b : Nat} [n : New w b] (o : Nat) (s : Option Nat) (v : Value) : Later w (W.setCell ⟨b, o, s⟩ v) := ⟨h.below.setCell n.le v⟩
theorem Later.cell (h : Later w W) {b o : Nat} {v : Value} (hc : w.cell? ⟨b, o, none⟩ = some v) : W.cell? ⟨b, o, none⟩ = some v :=
 (h.below.cell (World.block_lt_of_cell? w _ hc)).trans hc
theorem Later.cells {b o : Nat} {v : Value} (hc : w.cell? ⟨b, o, none⟩ = some v) : ∀ W [Later w W], W.cell? ⟨b, o, none⟩ = some v := fun _ h => h.cell hc
theorem heap_new {o : Obj} {n : Nat} (h : n = w.heap.size) : (w.alloc o).heap[n]? = some o := by subst h; exact heap_alloc_new w o
theorem heap_old {o : Obj} {n : Nat} (h : n < w.heap.size) : (w.alloc o).heap[n]? = w.heap[n]? := heap_alloc_old w o h
theorem Later.boxes {b : Nat} {cs : Array Value} {t : TypeId} {fr : Nat × Nat} (h : w.heap[b]? = some (.cells cs t fr)) : ∀ W [Later w W] (j : Nat), W.cell? ⟨b, j, none⟩ = cs[j]? := fun W hW j => by
 have hb : b < w.heap.size := by
  rcases Nat.lt_or_ge b w.heap.size with hlt | hge
  ·exact hlt
  ·rw [Array.getElem?_eq_none hge] at h; cases h
 rw [hW.below.cell (p := ⟨b, j, none⟩) hb]
 simp [World.cell?, h]
theorem Later.of_grown {row : Option Nat} (h : Later w W) (hg : W.grownBy W1 row) (hr : ∀ g, row = some g → w.heap.size ≤ g) : Later w W1 := ⟨h.below.grown hg h.size hr⟩
end

/-- The call returned v, and changed nothing that was there. -/
def Ret (v : Value) (w : World) (e : Ending) (w' : World) : Prop := e = .returned v ∧ Later w w'

/-- The call returned v, and left the world as it was. -/
def RetS (v : Value) (w : World) (e : Ending) (w' : World) : Prop := e = .returned v ∧ w = w'

def I64 (x : Int) : Prop := -9223372036854775808 ≤ x ∧ x ≤ 9223372036854775807
/-- How a row of cells reads as a datum. -/
abbrev Rep (α : Type) := World → List Value → α → Prop
class Stays {α : Type} (r : Rep α) : Prop where
 later : ∀ {w W : World} {cs : List Value} {x : α}, Later w W → r w cs x → r W cs x

def rInt : Rep Int := fun _ cs x => cs = [.int .i64 x] ∧ I64 x
def rStr : Rep ByteArray := fun _ cs s => cs = [.string s] ∧ s.size ≤ maxLen
instance : Stays rInt := ⟨fun _ h => h⟩
instance : Stays rStr := ⟨fun _ h => h⟩

/-- The slice value '.slice A n c', elements of 'sz' cells that read by r, reads as the list l. -/
structure Sl {α : Type} (sz : Nat) (r : Rep α) (w : World) (A : Option Addr) (n c : Nat) (l : List α) : Prop where
 len : n = l.length
 cap : n ≤ c
 max : c ≤ 9223372036854775807
 el : ∀ (k : Nat) (x : α), l[k]? = some x → ∃ b o es, A = some ⟨b, o, none⟩ ∧ es.length = sz ∧ (∀ (j : Nat) (v : Value), es[j]? = some v → w.cell? ⟨b, o + k * sz + j, none⟩ = some v) ∧ r w es x

section
variable {α : Type} {sz : Nat} {r : Rep α} {w W : World} {A : Option Addr} {n c : Nat} {l : List α}
theorem Sl.later [hs : Stays r] (h : Sl sz r w A n c l) (hl : Later w W) : Sl sz r W A n c l :=
 ⟨h.len, h.cap, h.max, fun k x hx => let ⟨b, o, es, ha, he, hc, hr⟩ := h.el k x hx; ⟨b, o, es, ha, he, fun j v hv => hl.cell (hc j v hv), hs.later hl hr⟩⟩
theorem Sl.le (h : Sl sz r w A n c l) : n ≤ 9223372036854775807 := Nat.le_trans h.cap h.max
theorem Sl.nil_ (w : World) : Sl sz r w none 0 0 [] := ⟨rfl, Nat.le_refl _, by omega, fun k x hx => by simp at hx⟩
theorem Sl.nil_of (h : Sl sz r w A 0 c l) : l = [] := List.length_eq_zero_iff.1 h.len.symm
/-- The k-th element of a slice of one-cell elements. -/
theorem Sl.at1 (h : Sl 1 r w A n c l) {k : Nat} (hk : k < n) : ∃ b o v x, A = some ⟨b, o, none⟩ ∧ Hid (l[k]? = some x) ∧ (∀ W [Later w W], W.cell? ⟨b, o + k, none⟩ = some v) ∧ r w [v] x := by
 have hl : k < l.length := by have := h.len; omega
 obtain ⟨b, o, es, ha, he, hc, hr⟩ := h.el k l[k] (List.getElem?_eq_getElem hl)
 match es, he with
 | [v], _ => exact ⟨b, o, v, l[k], ha, List.getElem?_eq_getElem hl, Later.cells (by simpa using hc 0 v rfl), hr⟩
theorem drop_at {k : Nat} {x : α} (h : l[k]? = some x) : l.drop k = x :: l.drop (k + 1) := by
 obtain ⟨hk, rfl⟩ := List.getElem?_eq_some_iff.1 h
 exact List.drop_eq_getElem_cons hk
end
/-- A slice of numbers. -/
abbrev Ints := Sl 1 rInt
theorem Ints.at_ {w : World} {A : Option Addr} {n c : Nat} {l : List Int} (h : Ints w A n c l) {k : Nat} (hk : k < n) :
  ∃ b o x, A = some ⟨b, o, none⟩ ∧ Hid (l[k]? = some x) ∧ (∀ W [Later w W], W.cell? ⟨b, o + k, none⟩ = some (.int .i64 x)) ∧ I64 x := by
 obtain ⟨b, o, v, x, ha, hx, hc, hr⟩ := h.at1 hk
 obtain ⟨he, hi⟩ := hr
 cases he
 exact ⟨b, o, x, ha, hx, hc, hi⟩
/-- A slice, read as one cell. -/
def rSl {α : Type} (sz : Nat) (r : Rep α) : Rep (List α) := fun w cs l => ∃ A n c, cs = [.slice A n c] ∧ Sl sz r w A n c l
instance {α : Type} {sz : Nat} {r : Rep α} [Stays r] : Stays (rSl sz r) := ⟨fun hl ⟨A, n, c, e, h⟩ => ⟨A, n, c, e, h.later hl⟩⟩
/-- A slice of slices of numbers. -/
abbrev Rows := Sl 1 (rSl 1 rInt)
theorem Sl.row_ {α : Type} {sz : Nat} {r : Rep α} {w : World} {A : Option Addr} {n c : Nat} {l : List (List α)} (h : Sl 1 (rSl sz r) w A n c l) {k : Nat} (hk : k < n) :
  ∃ b o A1 n1 c1 x, A = some ⟨b, o, none⟩ ∧ Hid (l[k]? = some x) ∧ (∀ W [Later w W], W.cell? ⟨b, o + k, none⟩ = some (.slice A1 n1 c1)) ∧ Sl sz r w A1 n1 c1 x := by
 obtain ⟨b, o, v, x, ha, hx, hc, hr⟩ := h.at1 hk
 obtain ⟨A1, n1, c1, he, hi⟩ := hr
 cases he
 exact ⟨b, o, A1, n1, c1, x, ha, hx, hc, hi⟩

/-! ### Blocks of the call's own -/
/-- Block g holds just these cells, and may be written. -/
def Blk (w : World) (g : Nat) (t : TypeId) (cs : Array Value) : Prop := w.heap[g]? = some (.cells cs t (0, 0))
section
variable {w w' : World} {g : Nat} {t : TypeId} {cs : Array Value}
theorem Blk.lt (h : Blk w g t cs) : g < w.heap.size := by
 rcases Nat.lt_or_ge g w.heap.size with hlt | hge
 ·exact hlt
 ·unfold Blk at h; rw [Array.getElem?_eq_none hge] at h; cases h
theorem Blk.cell (h : Blk w g t cs) (i : Nat) : w.cell? ⟨g, i, none⟩ = cs[i]? := cell_of_row w g i cs t (0, 0) h
theorem Blk.frozen (h : Blk w g t cs) (i : Nat) : w.frozen? ⟨g, i, none⟩ = false := by
 unfold Blk at h
 simp [World.frozen?, h]
theorem Blk.new (w : World) (t : TypeId) (cs : Array Value) : Blk (w.alloc (.cells cs t)) w.heap.size t cs := heap_alloc_new w _
theorem Blk.drew (h : Blk w g t cs) : Blk w.drew g t cs := h
theorem Blk.alloc (h : Blk w g t cs) (o : Obj) : Blk (w.alloc o) g t cs := (Below.heap_alloc w o g h.lt).trans h
theorem Blk.set_ (h : Blk w g t cs) (i : Nat) (u : Value) : Blk (w.setCell ⟨g, i, none⟩ u) g t (cs.setIfInBounds i u) := by
 unfold Blk at h ⊢
 simp [World.setCell, Array.getElem?_modify, h]
theorem Blk.far (h : Blk w g t cs) {p : Addr} (hp : g ≠ p.block) (u : Value) : Blk (w.setCell p u) g t cs := (Below.heap_setCell w p u g hp).trans h
theorem Blk.later (h : Blk w g t cs) (hl : Later w w') : Blk w' g t cs := (hl.below.block g h.lt).trans h
theorem Blk.get (h : Blk w g t cs) {i : Nat} (hi : i < cs.size) : ∃ v, w.cell? ⟨g, i, none⟩ = some v := ⟨cs[i], by rw [h.cell, Array.getElem?_eq_getElem hi]⟩
end
theorem set_eq {cs : Array Value} {k : Nat} (v : Value) (h : k < cs.size) : (cs.setIfInBounds k v)[k]? = some v := by simp [h]
theorem set_ne {cs : Array Value} {k j : Nat} (v : Value) (h : j ≠ k) : (cs.setIfInBounds k v)[j]? = cs[j]? := by
 rw [Array.getElem?_setIfInBounds]; simp [Ne.symm h]
/-- make([]T, n): a new block of n zero elements. -/
theorem run_make_rowN {P : Program} (t e : TypeId) (i : TypeInfo) (z : Value) (ht : P.underlying t = some (.slice e)) (hi : P.info? e = some i) (hz : i.zero = some z)
  (kl kc : IntKind) (n c : Nat) (hnc : n ≤ c) (hbytes : i.bytes * c ≤ 281474976710656) (h63 : c ≤ 9223372036854775807) (w : World) :
  (Instr.makeSlice t (.int kl (n : Int)) (.int kc (c : Int))).run P w = .ok (.slice (some ⟨w.heap.size, 0, none⟩) n c) (w.alloc (.cells (madeCells z.cells (c * i.size)) e)) := by
 have hb : (i.bytes : Int) * (c : Int) ≤ 281474976710656 := by
  have h : ((i.bytes * c : Nat) : Int) ≤ 281474976710656 := by omega
  rwa [Int.natCast_mul] at h
 have hr := run_make (P := P) w t e i z ht hi hz kl kc n c (by omega) (by omega) hb (by omega)
 simp only [Int.toNat_natCast] at hr
 exact hr
theorem make_row {P : Program} (t e : TypeId) {z : Value} {size bytes : Nat} (ht : P.underlying t = some (.slice e)) (hi : (P.info? e).map (fun i => (i.zero, i.size, i.bytes)) = some (some z, size, bytes))
  (n : Nat) (hn : bytes * n ≤ 281474976710656) (h63 : n ≤ 9223372036854775807) :
  ∃ C : Array Value, C.size = n * size ∧ ∀ w : World, (Instr.makeSlice t (.int .i64 (n : Int)) (.int .i64 (n : Int))).run P w = .ok (.slice (some ⟨w.heap.size, 0, none⟩) n n) (w.alloc (.cells C e)) := by
 obtain ⟨i, h1, h2, h3, h4⟩ := info_parts hi
 subst h3 h4
 exact ⟨madeCells z.cells (n * i.size), size_madeCells _ _, fun w => run_make_rowN t e i z ht h1 h2 _ _ n n (Nat.le_refl _) hn h63 w⟩

/-! ### Owned: a datum in blocks of its own (fp: the blocks) -/
abbrev ORep (α : Type) := World → List Value → α → List Nat → Prop
class OStays {α : Type} (ro : ORep α) : Prop where
 keep : ∀ {w W : World} {cs : List Value} {x : α} {fp : List Nat}, (∀ g, g ∈ fp → W.heap[g]? = w.heap[g]?) → ro w cs x fp → ro W cs x fp
 lt : ∀ {w : World} {cs : List Value} {x : α} {fp : List Nat}, ro w cs x fp → ∀ g, g ∈ fp → g < w.heap.size
class Owns {α : Type} (ro : ORep α) (r : Rep α) : Prop where
 reads : ∀ {w : World} {cs : List Value} {x : α} {fp : List Nat}, ro w cs x fp → r w cs x
def oFlat {α : Type} (r : Rep α) : ORep α := fun w cs x fp => (∀ W, r W cs x) ∧ fp = []
instance {α : Type} {r : Rep α} : OStays (oFlat r) := ⟨fun _ h => h, fun h g hg => by rw [h.2] at hg; cases hg⟩
instance {α : Type} {r : Rep α} : Owns (oFlat r) r := ⟨fun h => h.1 _⟩
structure OSl {α : Type} (sz : Nat) (ro : ORep α) (w : World) (A : Option Addr) (n c : Nat) (l : List α) (fp : List Nat) : Prop where
 len : n = l.length
 cap : n ≤ c
 max : c ≤ 9223372036854775807
 own : (l = [] ∧ fp = []) ∨ ∃ (g o : Nat) (t : TypeId) (cs : Array Value) (fps : List (List Nat)), A = some ⟨g, o, none⟩ ∧ Blk w g t cs ∧ fp = g :: fps.flatten ∧ fps.length = l.length ∧
  ∀ (k : Nat) (x : α), l[k]? = some x → ∃ es f, fps[k]? = some f ∧ es.length = sz ∧ (∀ (j : Nat) (v : Value), es[j]? = some v → cs[o + k * sz + j]? = some v) ∧ ro w es x f
section
variable {α : Type} {sz : Nat} {ro : ORep α} {r : Rep α} {w W : World} {A : Option Addr} {n c : Nat} {l : List α} {fp : List Nat}
theorem mem_flatten_at {fps : List (List Nat)} {f : List Nat} {k g : Nat} (hf : fps[k]? = some f) (hg : g ∈ f) : g ∈ fps.flatten :=
 List.mem_flatten.2 ⟨f, List.mem_of_getElem? hf, hg⟩
theorem OSl.keep [ho : OStays ro] (h : OSl sz ro w A n c l fp) (hk : ∀ g, g ∈ fp → W.heap[g]? = w.heap[g]?) : OSl sz ro W A n c l fp := by
 refine ⟨h.len, h.cap, h.max, ?_⟩
 rcases h.own with h0 | ⟨g, o, t, cs, fps, ha, hb, rfl, hl, hel⟩
 ·exact .inl h0
 refine .inr ⟨g, o, t, cs, fps, ha, (hk g (by simp)).trans hb, rfl, hl, fun k x hx => ?_⟩
 obtain ⟨es, f, hf, he, hc, hr⟩ := hel k x hx
 exact ⟨es, f, hf, he, hc, ho.keep (fun g' hg' => hk g' (List.mem_cons_of_mem _ (mem_flatten_at hf hg'))) hr⟩
theorem OSl.reads [ho : Owns ro r] (h : OSl sz ro w A n c l fp) : Sl sz r w A n c l := by
 refine ⟨h.len, h.cap, h.max, fun k x hx => ?_⟩
 rcases h.own with ⟨rfl, _⟩ | ⟨g, o, t, cs, fps, ha, hb, rfl, hl, hel⟩
 ·simp at hx
 obtain ⟨es, f, hf, he, hc, hr⟩ := hel k x hx
 exact ⟨g, o, es, ha, he, fun j v hv => (hb.cell _).trans (hc j v hv), ho.reads hr⟩
theorem OSl.lt [ho : OStays ro] (h : OSl sz ro w A n c l fp) : ∀ g, g ∈ fp → g < w.heap.size := by
 rcases h.own with ⟨_, rfl⟩ | ⟨g, o, t, cs, fps, ha, hb, rfl, hl, hel⟩
 ·intro g hg; cases hg
 intro g' hg'
 rcases List.mem_cons.1 hg' with rfl | hg'
 ·exact hb.lt
 obtain ⟨f, hf, hgf⟩ := List.mem_flatten.1 hg'
 obtain ⟨k, hk, rfl⟩ := List.getElem_of_mem hf
 have hkl : k < l.length := by omega
 obtain ⟨es, f', hf', he, hc, hr⟩ := hel k l[k] (List.getElem?_eq_getElem hkl)
 rw [List.getElem?_eq_getElem hk] at hf'
 cases hf'
 exact ho.lt hr _ hgf
end
theorem OSl.later {α : Type} {sz : Nat} {ro : ORep α} {w W : World} {A : Option Addr} {n c : Nat} {l : List α} {fp : List Nat} [OStays ro] (h : OSl sz ro w A n c l fp) (hl : Later w W) : OSl sz ro W A n c l fp :=
 h.keep fun g hg => hl.below.block g (h.lt g hg)
theorem OSl.setc {α : Type} {sz : Nat} {ro : ORep α} {w : World} {A : Option Addr} {n c : Nat} {l : List α} {fp : List Nat} [OStays ro] (h : OSl sz ro w A n c l fp) {b : Nat} (hb : b ∉ fp) (o : Nat) (v : Value) : OSl sz ro (w.setCell ⟨b, o, none⟩ v) A n c l fp :=
 h.keep fun g hg => Below.heap_setCell w ⟨b, o, none⟩ v g fun (e : g = b) => hb (e ▸ hg)
def oSl {α : Type} (sz : Nat) (ro : ORep α) : ORep (List α) := fun w cs l fp => ∃ A n c, cs = [.slice A n c] ∧ OSl sz ro w A n c l fp
instance {α : Type} {sz : Nat} {ro : ORep α} [OStays ro] : OStays (oSl sz ro) := ⟨fun hk ⟨A, n, c, e, h⟩ => ⟨A, n, c, e, h.keep hk⟩, fun ⟨A, n, c, e, h⟩ => h.lt⟩
instance {α : Type} {sz : Nat} {ro : ORep α} {r : Rep α} [Owns ro r] : Owns (oSl sz ro) (rSl sz r) := ⟨fun ⟨A, n, c, e, h⟩ => ⟨A, n, c, e, h.reads⟩⟩
abbrev oInt : ORep Int := oFlat rInt
abbrev oStr : ORep ByteArray := oFlat rStr
/-- A flat slice in a block of its own. -/
theorem OSl.of_blk {α : Type} {sz : Nat} {r : Rep α} {w : World} {g : Nat} {t : TypeId} {cs : Array Value} {l : List α} {n c : Nat} (hb : Blk w g t cs) (hn : n = l.length) (hc : n ≤ c) (hm : c ≤ 9223372036854775807)
  (hel : ∀ (k : Nat) (x : α), l[k]? = some x → ∃ es : List Value, es.length = sz ∧ (∀ (j : Nat) (v : Value), es[j]? = some v → cs[k * sz + j]? = some v) ∧ ∀ W, r W es x) :
  ∃ fp, OSl sz (oFlat r) w (some ⟨g, 0, none⟩) n c l fp ∧ fp = [g] := by
 refine ⟨_, ⟨hn, hc, hm, .inr ⟨g, 0, t, cs, List.replicate l.length [], rfl, hb, rfl, by simp, fun k x hx => ?_⟩⟩, by simp⟩
 obtain ⟨es, he, hcs, hr⟩ := hel k x hx
 exact ⟨es, [], by rw [List.getElem?_replicate, if_pos (List.getElem?_eq_some_iff.1 hx).1], he, by simpa using hcs, hr, rfl⟩
/-- The call changed only what lies in the blocks fp, and made new ones. -/
structure Touch (fp : List Nat) (w W : World) : Prop where
 os : W.os = w.os
 tape : W.tape = w.tape
 output : W.output = w.output
 size : w.heap.size ≤ W.heap.size
 block : ∀ g, g < w.heap.size → g ∉ fp → W.heap[g]? = w.heap[g]?
section
variable {fp fq : List Nat} {w w0 W W1 : World}
theorem Touch.refl_ : Touch fp w w := ⟨rfl, rfl, rfl, Nat.le_refl _, fun _ _ _ => rfl⟩
theorem Touch.of_later (h : Later w W) : Touch fp w W := ⟨h.below.os, h.below.tape, h.below.output, h.size, fun g hg _ => h.below.block g hg⟩
theorem Touch.trans (h : Touch fp w W) (k : Touch fp W W1) : Touch fp w W1 :=
 ⟨k.os.trans h.os, k.tape.trans h.tape, k.output.trans h.output, Nat.le_trans h.size k.size, fun g hg hn => (k.block g (Nat.lt_of_lt_of_le hg h.size) hn).trans (h.block g hg hn)⟩
theorem Touch.mono (h : Touch fp w W) (hs : ∀ g, g ∈ fp → g ∈ fq) : Touch fq w W := ⟨h.os, h.tape, h.output, h.size, fun g hg hn => h.block g hg fun h' => hn (hs g h')⟩
theorem Touch.set_ {g : Nat} (h : Touch fp w W) (hg : g ∈ fp) (o : Nat) (v : Value) : Touch fp w (W.setCell ⟨g, o, none⟩ v) :=
 ⟨h.os, h.tape, h.output, by simpa using h.size, fun k hk hn => (Below.heap_setCell W ⟨g, o, none⟩ v k (fun e => hn (by rw [e]; exact hg))).trans (h.block k hk hn)⟩
theorem Touch.drew (h : Touch fp w W) : Touch fp w W.drew := ⟨h.os, h.tape, h.output, h.size, h.block⟩
theorem Touch.blk (h : Touch fp w W) {g : Nat} {t : TypeId} {cs : Array Value} (hb : Blk w g t cs) (hg : g ∉ fp) : Blk W g t cs := (h.block g hb.lt hg).trans hb
theorem OSl.touch {α : Type} {sz : Nat} {ro : ORep α} [OStays ro] {A : Option Addr} {n c : Nat} {l : List α} (h : OSl sz ro w A n c l fp) (hT : Touch fq w W) (hd : ∀ g, g ∈ fp → g ∉ fq) : OSl sz ro W A n c l fp :=
 h.keep fun g hg => hT.block g (h.lt g hg) (hd g hg)
theorem Touch.later (h : Touch fp w W) (hl : Later w0 w) (hf : ∀ g, g ∈ fp → w0.heap.size ≤ g) : Later w0 W :=
 ⟨h.os.trans hl.below.os, h.tape.trans hl.below.tape, h.output.trans hl.below.output, Nat.le_trans hl.size h.size, fun g hg => (h.block g (Nat.lt_of_lt_of_le hg hl.size) (fun h' => by have := hf g h'; omega)).trans (hl.below.block g hg)⟩
end
/-- A result that is a slice in blocks of its own. -/
def RetO {α : Type} (sz : Nat) (ro : ORep α) (l : List α) (w : World) (e : Ending) (w' : World) : Prop :=
 ∃ A n c fp, e = .returned (.slice A n c) ∧ OSl sz ro w' A n c l fp ∧ fp.Nodup ∧ (∀ g, g ∈ fp → w.heap.size ≤ g) ∧ Later w w'

theorem OSl.nil_ {α : Type} {sz : Nat} {ro : ORep α} {w : World} (A : Option Addr) : OSl sz ro w A 0 0 [] [] := ⟨rfl, Nat.le_refl _, by omega, .inl ⟨rfl, rfl⟩⟩

theorem nodup_app {a b : List Nat} {N : Nat} (ha : a.Nodup) (hb : b.Nodup) (h1 : ∀ x, x ∈ a → x < N) (h2 : ∀ x, x ∈ b → N ≤ x) : (a ++ b).Nodup :=
 List.nodup_append.2 ⟨ha, hb, fun x hx y hy e => by have := h1 x hx; have := h2 y hy; omega⟩
/-! ### A slice that grows by append -/
/-- What a slice owns, read as a flat datum. -/
theorem OSl.of_own {α : Type} {sz : Nat} {r : Rep α} {w : World} {base : Nat} {e : TypeId} {v : Value} {n : Nat} {xs : List Value} {l : List α} (h : w.ownsRow base e sz v n xs) (hn : n = l.length)
  (hel : ∀ (k : Nat) (x : α), l[k]? = some x → ∃ es : List Value, es.length = sz ∧ (∀ (j : Nat) (u : Value), es[j]? = some u → xs[k * sz + j]? = some u) ∧ ∀ W, r W es x) :
  ∃ A c fp, v = .slice A n c ∧ OSl sz (oFlat r) w A n c l fp ∧ fp.Nodup ∧ ∀ g, g ∈ fp → base ≤ g := by
 obtain ⟨hxs, h2⟩ := h
 rcases h2 with ⟨rfl, rfl⟩ | ⟨g, cap, cur, rfl, hb, hg, hnc, hcm, hsz, htk⟩
 ·have hnil : l = [] := List.length_eq_zero_iff.1 hn.symm
  exact ⟨none, 0, [], rfl, ⟨hn, Nat.le_refl _, by omega, .inl ⟨hnil, rfl⟩⟩, by simp, by simp⟩
 ·obtain ⟨fp, ho, hfp⟩ := OSl.of_blk (sz := sz) (r := r) (l := l) (n := n) (c := cap) (show Blk w g e cur from hg) hn hnc (by simpa [maxLen] using hcm) (fun k x hx => by
   obtain ⟨es, h1, h2, h3⟩ := hel k x hx
   refine ⟨es, h1, fun j u hu => ?_, h3⟩
   have h4 := h2 j u hu
   rw [← htk, List.getElem?_take] at h4
   split at h4
   ·simpa using h4
   ·cases h4)
  subst hfp
  exact ⟨_, _, _, rfl, ho, by simp, by simpa using hb⟩
theorem OSl.ints_of_own {w : World} {base : Nat} {e : TypeId} {v : Value} {n : Nat} {l : List Int} (h : w.ownsRow base e 1 v n (l.map (Value.int .i64))) (hi : ∀ x, x ∈ l → I64 x) :
  ∃ A c fp, v = .slice A n c ∧ OSl 1 oInt w A n c l fp ∧ fp.Nodup ∧ ∀ g, g ∈ fp → base ≤ g :=
 OSl.of_own h (by have := h.1; simpa using this.symm) fun k x hx => ⟨[.int .i64 x], rfl, fun j u hu => by
  match j, hu with
  | 0, hu => simp at hu; subst hu; simp [hx], fun _ => ⟨rfl, hi x (List.mem_of_getElem? hx)⟩⟩
theorem OSl.ints_blk {w : World} {g n : Nat} {t : TypeId} {cs : Array Value} {l : List Int} (hb : Blk w g t cs) (hn : n = l.length) (hm : n ≤ 9223372036854775807)
  (hel : ∀ (k : Nat) (x : Int), l[k]? = some x → cs[k]? = some (.int .i64 x) ∧ I64 x) : OSl 1 oInt w (some ⟨g, 0, none⟩) n n l [g] := by
 obtain ⟨fp, ho, hfp⟩ := OSl.of_blk (sz := 1) (r := rInt) (l := l) (n := n) (c := n) hb hn (Nat.le_refl _) hm (fun j x hx => by
  obtain ⟨h1, h2⟩ := hel j x hx
  exact ⟨[.int .i64 x], rfl, fun j' v hv => by
   match j', hv with
   | 0, hv => simp at hv; subst hv; simpa using h1, fun _ => ⟨rfl, h2⟩⟩)
 subst hfp
 exact ho
theorem one_cell (k : IntKind) (x : Int) : ∀ u ∈ (#[Value.int k x] : Array Value).toList, u.oneCell' = true := by simp; rfl

/-! ### From the form's own reading -/
/-- A type whose values, where they can be read, read by r. -/
def Opens (P : Program) (t : TypeId) {α : Type} (r : Rep α) : Prop :=
 ∀ {H : Type} {enc : TypeId × Value → H} {w : World} {base : Nat} {spare : Nat → Bool} {held : Bool} {fuel : Nat} {cs : List Value} {x : DataW H × List MemPlace},
  DataW.trod enc P w base spare held fuel t cs = some x → ∃ d, r w cs d
theorem I64.of_wf {x : Int} (h : (Lit.int .i64 x).wf = true) : I64 x := by
 simp [Lit.wf, IntKind.min, IntKind.max, IntKind.signed, IntKind.bits] at h
 exact ⟨h.1, h.2⟩
theorem opens_int {P : Program} {t : TypeId} (h : P.underlying t = some (.int .i64)) : Opens P t rInt := by
 intro H enc w base spare held fuel cs x hx
 obtain ⟨n, hcs, _, hw⟩ := DataW.trod_int h hx
 exact ⟨n, hcs, I64.of_wf hw⟩
theorem opens_str {P : Program} {t : TypeId} (h : P.underlying t = some .string) : Opens P t rStr := by
 intro H enc w base spare held fuel cs x hx
 obtain ⟨s, hcs, _, hw⟩ := DataW.trod_string h hx
 exact ⟨s, hcs, hw⟩
theorem opens_slice {P : Program} {t e : TypeId} {sz : Nat} {α : Type} {r : Rep α} (h : P.underlying t = some (.slice e)) (hsz : P.cellsOf e = sz) (h0 : 0 < sz) (he : Opens P e r) : Opens P t (rSl sz r) := by
 intro H enc w base spare held fuel cs x hx
 rcases Deep.open_slice h hx with ⟨rfl, _⟩ | ⟨a, len, cap, m, n, D, Pl, rfl, _, hl, hm, hmm, _, hel⟩
 ·exact ⟨[], none, 0, 0, rfl, Sl.nil_ w⟩
 have hlm : len ≤ m := by rw [hmm]; split <;> omega
 have hr : ∀ i, i < len → ∃ y : List Value × α, w.cells? base (a.add (i * sz)) sz = some y.1 ∧ r w y.1 y.2 := fun i hi => by
  obtain ⟨cs', h1, h2⟩ := hel i (by omega)
  rw [hsz] at h1
  obtain ⟨d, hd⟩ := he h2
  exact ⟨(cs', d), h1, hd⟩
 rcases Nat.eq_zero_or_pos len with rfl | hpos
 ·exact ⟨[], some a, 0, cap, rfl, rfl, hl, by simpa [maxLen] using hm, fun k x hk => by simp at hk⟩
 haveI : Inhabited (List Value × α) := ⟨Classical.choose (hr 0 hpos)⟩
 obtain ⟨f, hf⟩ := Deep.choose_lt hr
 refine ⟨(List.range len).map fun i => (f i).2, some a, len, cap, rfl, by simp, hl, by simpa [maxLen] using hm, fun k x hk => ?_⟩
 obtain ⟨hk', rfl⟩ := List.getElem?_eq_some_iff.1 hk
 simp at hk'
 obtain ⟨h1, h2⟩ := hf k hk'
 obtain ⟨_, hlen, hat⟩ := World.cells?_some h1
 have hone : ∀ (j : Nat) (v : Value), (f k).1[j]? = some v → w.cell? ((a.add (k * sz)).add j) = some v := fun j v hv => by
  have hj : j < sz := by rw [← hlen]; exact (List.getElem?_eq_some_iff.1 hv).1
  rw [hat j hj, hv]
 have h00 : a.spot = none := by
  obtain ⟨h1, _⟩ := hf 0 (by omega)
  obtain ⟨_, hlen0, hat0⟩ := World.cells?_some h1
  have h2 := hat0 0 h0
  rw [List.getElem?_eq_getElem (by omega)] at h2
  simp only [Nat.zero_mul, Addr.add, if_pos] at h2
  unfold World.cell? at h2
  split at h2
  ·split at h2
   ·simp at h2
   ·rename_i hs; simpa using hs
  ·simp at h2
 obtain ⟨ab, ao, asp⟩ := a
 cases h00
 refine ⟨ab, ao, (f k).1, rfl, hlen, fun j v hv => ?_, by simpa using h2⟩
 have := hone j v hv
 rw [Deep.add_add] at this
 unfold Addr.add at this
 split at this
 ·rename_i hz; rw [show k * sz = 0 by omega, show j = 0 by omega]; exact this
 ·rw [Nat.add_assoc]; exact this
end Go.Proofs.YtknhebakebmlcaaGreat
