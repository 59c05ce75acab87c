/-
  Memory: how slices of numbers, of rows and of structs read, and what stays as it was in a later world. Lemmas only.
-/
import Derived.WalkKit
import Derived.WalkLawsBesides
import Derived.WalkSpells
import Derived.Laws.OwnMore
import Derived.Deep.Draws
import Derived.Deep.Slices
namespace Go.Proofs.Ythoappgpkelakaa
open Go Go.RowKit
set_option linter.unusedVariables false

/-- Every block that was there in w is in W as it was. -/
class Later (w W : World) : Prop where
  below : Below w.heap.size w W
/-- The block b is no block of w. -/
class New (w : World) (b : Nat) : Prop where
  le : w.heap.size ≤ b

section
variable {w W W1 : World}
theorem Later.size (h : Later w W) : w.heap.size ≤ W.heap.size := h.below.size
instance Later.rfl_ : Later w w := ⟨Below.refl _ _⟩
theorem Later.trans (h : Later w W) (k : Later W W1) : Later w W1 := ⟨h.below.trans (k.below.mono h.size)⟩
instance Later.alloc_ [h : Later w W] (o : Obj) : Later w (W.alloc o) := ⟨h.below.alloc h.size o⟩
instance Later.drew_ [h : Later w W] : Later w W.drew := ⟨h.below.drew⟩
instance Later.drewN_ [h : Later w W] (n : Nat) : Later w (W.drewN n) := ⟨⟨h.below.os, h.below.tape, h.below.output, h.below.size, h.below.block⟩⟩
instance New.self_ : New w w.heap.size := ⟨Nat.le_refl _⟩
instance New.later_ [h : Later w W] : New w W.heap.size := ⟨h.size⟩
instance New.add_ {b : Nat} [h : New w b] (k : Nat) : New w (b + k) := ⟨Nat.le_trans h.le (Nat.le_add_right _ _)⟩
instance Later.setCell_ [h : Later w W] {b : Nat} [n : New w b] (o : Nat) (s : Option Nat) (v : Value) : Later w (W.setCell ⟨b, o, s⟩ v) := ⟨h.below.setCell n.le v⟩
theorem Later.cell (h : Later w W) {b o : Nat} {v : Value} (hc : w.cell? ⟨b, o, none⟩ = some v) : W.cell? ⟨b, o, none⟩ = some v :=
  (h.below.cell (World.block_lt_of_cell? w _ hc)).trans hc
theorem Later.cells {b o : Nat} {v : Value} (hc : w.cell? ⟨b, o, none⟩ = some v) : ∀ W [Later w W], W.cell? ⟨b, o, none⟩ = some v := fun _ h => h.cell hc
/-- A block that was laid in w reads in each later world as it was laid. -/
theorem Later.box {cs : Array Value} {t : TypeId} (h : Later (w.alloc (.cells cs t)) W) (j : Nat) : W.cell? ⟨w.heap.size, j, none⟩ = cs[j]? := by
  rw [h.below.cell (p := ⟨w.heap.size, j, none⟩) (by simp)]
  exact World.cell?_alloc_new w cs t j
theorem heap_new {o : Obj} {n : Nat} (h : n = w.heap.size) : (w.alloc o).heap[n]? = some o := by subst h; exact heap_alloc_new w o
theorem heap_old {o : Obj} {n : Nat} (h : n < w.heap.size) : (w.alloc o).heap[n]? = w.heap[n]? := heap_alloc_old w o h
theorem Later.boxes {b : Nat} {cs : Array Value} {t : TypeId} {fr : Nat × Nat} (h : w.heap[b]? = some (.cells cs t fr)) : ∀ W [Later w W] (j : Nat), W.cell? ⟨b, j, none⟩ = cs[j]? := fun W hW j => by
  have hb : b < w.heap.size := by
    rcases Nat.lt_or_ge b w.heap.size with hlt | hge
    · exact hlt
    · rw [Array.getElem?_eq_none hge] at h; cases h
  rw [hW.below.cell (p := ⟨b, j, none⟩) hb]
  simp [World.cell?, h]
theorem Later.of_grown {row : Option Nat} (h : Later w W) (hg : W.grownBy W1 row) (hr : ∀ g, row = some g → w.heap.size ≤ g) : Later w W1 := ⟨h.below.grown hg h.size hr⟩
end

/-- The call returned v, and changed nothing that was there. -/
def Ret (v : Value) (w : World) (e : Ending) (w' : World) : Prop := e = .returned v ∧ Later w w'

/-- The call returned v, and left the world as it was. -/
def RetS (v : Value) (w : World) (e : Ending) (w' : World) : Prop := e = .returned v ∧ w = w'

def I64 (x : Int) : Prop := -9223372036854775808 ≤ x ∧ x ≤ 9223372036854775807
theorem I64.wf {x : Int} (h : I64 x) : (Lit.int .i64 x).wf = true := WalkArith.wf_i64 ⟨h.1, h.2⟩

/-- How a row of cells reads as a datum. -/
abbrev Rep (α : Type) := World → List Value → α → Prop
class Stays {α : Type} (r : Rep α) : Prop where
  later : ∀ {w W : World} {cs : List Value} {x : α}, Later w W → r w cs x → r W cs x

def rInt : Rep Int := fun _ cs x => cs = [.int .i64 x] ∧ I64 x
def rStr : Rep ByteArray := fun _ cs s => cs = [.string s] ∧ s.size ≤ maxLen
instance : Stays rInt := ⟨fun _ h => h⟩
instance : Stays rStr := ⟨fun _ h => h⟩

/-- The slice value '.slice A n c', elements of 'sz' cells that read by r, reads as the list l. -/
structure Sl {α : Type} (sz : Nat) (r : Rep α) (w : World) (A : Option Addr) (n c : Nat) (l : List α) : Prop where
  len : n = l.length
  cap : n ≤ c
  max : c ≤ 9223372036854775807
  el : ∀ (k : Nat) (x : α), l[k]? = some x → ∃ b o es, A = some ⟨b, o, none⟩ ∧ es.length = sz ∧ (∀ (j : Nat) (v : Value), es[j]? = some v → w.cell? ⟨b, o + k * sz + j, none⟩ = some v) ∧ r w es x

section
variable {α : Type} {sz : Nat} {r : Rep α} {w W : World} {A : Option Addr} {n c : Nat} {l : List α}
theorem Sl.later [hs : Stays r] (h : Sl sz r w A n c l) (hl : Later w W) : Sl sz r W A n c l :=
  ⟨h.len, h.cap, h.max, fun k x hx => let ⟨b, o, es, ha, he, hc, hr⟩ := h.el k x hx; ⟨b, o, es, ha, he, fun j v hv => hl.cell (hc j v hv), hs.later hl hr⟩⟩
theorem Sl.le (h : Sl sz r w A n c l) : n ≤ 9223372036854775807 := Nat.le_trans h.cap h.max
theorem Sl.nil_ (w : World) : Sl sz r w none 0 0 [] := ⟨rfl, Nat.le_refl _, by omega, fun k x hx => by simp at hx⟩
theorem Sl.nil_of (h : Sl sz r w A 0 c l) : l = [] := List.length_eq_zero_iff.1 h.len.symm
/-- The k-th element of a slice of one-cell elements. -/
theorem Sl.at1 (h : Sl 1 r w A n c l) {k : Nat} (hk : k < n) : ∃ b o v x, A = some ⟨b, o, none⟩ ∧ Hid (l[k]? = some x) ∧ (∀ W [Later w W], W.cell? ⟨b, o + k, none⟩ = some v) ∧ r w [v] x := by
  have hl : k < l.length := by have := h.len; omega
  obtain ⟨b, o, es, ha, he, hc, hr⟩ := h.el k l[k] (List.getElem?_eq_getElem hl)
  match es, he with
  | [v], _ => exact ⟨b, o, v, l[k], ha, List.getElem?_eq_getElem hl, Later.cells (by simpa using hc 0 v rfl), hr⟩
theorem drop_at {k : Nat} {x : α} (h : l[k]? = some x) : l.drop k = x :: l.drop (k + 1) := by
  obtain ⟨hk, rfl⟩ := List.getElem?_eq_some_iff.1 h
  exact List.drop_eq_getElem_cons hk
end
/-- A slice of numbers. -/
abbrev Ints := Sl 1 rInt
theorem Ints.at_ {w : World} {A : Option Addr} {n c : Nat} {l : List Int} (h : Ints w A n c l) {k : Nat} (hk : k < n) :
    ∃ b o x, A = some ⟨b, o, none⟩ ∧ Hid (l[k]? = some x) ∧ (∀ W [Later w W], W.cell? ⟨b, o + k, none⟩ = some (.int .i64 x)) ∧ I64 x := by
  obtain ⟨b, o, v, x, ha, hx, hc, hr⟩ := h.at1 hk
  obtain ⟨he, hi⟩ := hr
  cases he
  exact ⟨b, o, x, ha, hx, hc, hi⟩
/-- A slice, read as one cell. -/
def rSl {α : Type} (sz : Nat) (r : Rep α) : Rep (List α) := fun w cs l => ∃ A n c, cs = [.slice A n c] ∧ Sl sz r w A n c l
instance {α : Type} {sz : Nat} {r : Rep α} [Stays r] : Stays (rSl sz r) := ⟨fun hl ⟨A, n, c, e, h⟩ => ⟨A, n, c, e, h.later hl⟩⟩
/-- A slice of slices of numbers. -/
abbrev Rows := Sl 1 (rSl 1 rInt)
theorem Sl.row_ {α : Type} {sz : Nat} {r : Rep α} {w : World} {A : Option Addr} {n c : Nat} {l : List (List α)} (h : Sl 1 (rSl sz r) w A n c l) {k : Nat} (hk : k < n) :
    ∃ b o A1 n1 c1 x, A = some ⟨b, o, none⟩ ∧ Hid (l[k]? = some x) ∧ (∀ W [Later w W], W.cell? ⟨b, o + k, none⟩ = some (.slice A1 n1 c1)) ∧ Sl sz r w A1 n1 c1 x := by
  obtain ⟨b, o, v, x, ha, hx, hc, hr⟩ := h.at1 hk
  obtain ⟨A1, n1, c1, he, hi⟩ := hr
  cases he
  exact ⟨b, o, A1, n1, c1, x, ha, hx, hc, hi⟩

/-! ### From the form's own reading -/
/-- A type whose values, where they can be read, read by r. -/
def Opens (P : Program) (t : TypeId) {α : Type} (r : Rep α) : Prop :=
  ∀ {H : Type} {enc : TypeId × Value → H} {w : World} {base : Nat} {spare : Nat → Bool} {held : Bool} {fuel : Nat} {cs : List Value} {x : DataW H × List MemPlace},
    DataW.trod enc P w base spare held fuel t cs = some x → ∃ d, r w cs d
theorem I64.of_wf {x : Int} (h : (Lit.int .i64 x).wf = true) : I64 x := by
  simp [Lit.wf, IntKind.min, IntKind.max, IntKind.signed, IntKind.bits] at h
  exact ⟨h.1, h.2⟩
theorem opens_int {P : Program} {t : TypeId} (h : P.underlying t = some (.int .i64)) : Opens P t rInt := by
  intro H enc w base spare held fuel cs x hx
  obtain ⟨n, hcs, _, hw⟩ := DataW.trod_int h hx
  exact ⟨n, hcs, I64.of_wf hw⟩
theorem opens_str {P : Program} {t : TypeId} (h : P.underlying t = some .string) : Opens P t rStr := by
  intro H enc w base spare held fuel cs x hx
  obtain ⟨s, hcs, _, hw⟩ := DataW.trod_string h hx
  exact ⟨s, hcs, hw⟩
theorem opens_slice {P : Program} {t e : TypeId} {sz : Nat} {α : Type} {r : Rep α} (h : P.underlying t = some (.slice e)) (hsz : P.cellsOf e = sz) (h0 : 0 < sz) (he : Opens P e r) : Opens P t (rSl sz r) := by
  intro H enc w base spare held fuel cs x hx
  rcases Deep.open_slice h hx with ⟨rfl, _⟩ | ⟨a, len, cap, m, n, D, Pl, rfl, _, hl, hm, hmm, _, hel⟩
  · exact ⟨[], none, 0, 0, rfl, Sl.nil_ w⟩
  have hlm : len ≤ m := by rw [hmm]; split <;> omega
  have hr : ∀ i, i < len → ∃ y : List Value × α, w.cells? base (a.add (i * sz)) sz = some y.1 ∧ r w y.1 y.2 := fun i hi => by
    obtain ⟨cs', h1, h2⟩ := hel i (by omega)
    rw [hsz] at h1
    obtain ⟨d, hd⟩ := he h2
    exact ⟨(cs', d), h1, hd⟩
  rcases Nat.eq_zero_or_pos len with rfl | hpos
  · exact ⟨[], some a, 0, cap, rfl, rfl, hl, by simpa [maxLen] using hm, fun k x hk => by simp at hk⟩
  haveI : Inhabited (List Value × α) := ⟨Classical.choose (hr 0 hpos)⟩
  obtain ⟨f, hf⟩ := Deep.choose_lt hr
  refine ⟨(List.range len).map fun i => (f i).2, some a, len, cap, rfl, by simp, hl, by simpa [maxLen] using hm, fun k x hk => ?_⟩
  obtain ⟨hk', rfl⟩ := List.getElem?_eq_some_iff.1 hk
  simp at hk'
  obtain ⟨h1, h2⟩ := hf k hk'
  obtain ⟨_, hlen, hat⟩ := World.cells?_some h1
  have hone : ∀ (j : Nat) (v : Value), (f k).1[j]? = some v → w.cell? ((a.add (k * sz)).add j) = some v := fun j v hv => by
    have hj : j < sz := by rw [← hlen]; exact (List.getElem?_eq_some_iff.1 hv).1
    rw [hat j hj, hv]
  have h00 : a.spot = none := by
    obtain ⟨h1, _⟩ := hf 0 (by omega)
    obtain ⟨_, hlen0, hat0⟩ := World.cells?_some h1
    have h2 := hat0 0 h0
    rw [List.getElem?_eq_getElem (by omega)] at h2
    simp only [Nat.zero_mul, Addr.add, if_pos] at h2
    unfold World.cell? at h2
    split at h2
    · split at h2
      · simp at h2
      · rename_i hs; simpa using hs
    · simp at h2
  obtain ⟨ab, ao, asp⟩ := a
  cases h00
  refine ⟨ab, ao, (f k).1, rfl, hlen, fun j v hv => ?_, by simpa using h2⟩
  have := hone j v hv
  rw [Deep.add_add] at this
  unfold Addr.add at this
  split at this
  · rename_i hz; rw [show k * sz = 0 by omega, show j = 0 by omega]; exact this
  · rw [Nat.add_assoc]; exact this
end Go.Proofs.Ythoappgpkelakaa
