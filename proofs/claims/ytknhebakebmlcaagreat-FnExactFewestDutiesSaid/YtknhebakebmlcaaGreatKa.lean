/-
 Plain functions on lists that several texts use: the first place, all with their places, sums. No program in sight.
 Small functions on numbers: what each call returns, for all arguments.
 The helpers of the statements on slices of numbers: copy, size, equality, marks.
 Slices whose elements lead into memory of their own: how one is built element by element, and how one element is changed. Lemmas only.
 Helpers of the statements on slices of strings: copy, size, equality, marks.
 Networks: when one is valid. Plain functions.
 Timetables: when one is valid, the times of trips. Plain functions.
 Append of one element, with the base of what is owned set apart.
 The rules of duties: what the calls return, for all arguments.
 Helpers of the statements on Span and slices of it. Printed by a program of ours (gen_flat.py).
-/
import Derived.Test.YtknhebakebmlcaaGreatTypes
import Derived.Lib.Hide
import Derived.Deep.QuietTactic
import Derived.BigQuiet
import Derived.Outline
import Derived.StillTailTactics
namespace Go.Proofs.YtknhebakebmlcaaGreat
open Go Go.RowKit
set_option linter.unusedVariables false
set_option maxRecDepth 100000
section
variable {α β : Type}
/-- The place of the first element that p holds of, counted from k, or -1. -/
def idxGo (p : α → Bool) : List α → Nat → Int
 | [], _ => -1
 | x :: l, k => if p x = true then (k : Int) else idxGo p l (k + 1)
def idx (p : α → Bool) (l : List α) : Int := idxGo p l 0
/-- f holds of each element at its place, counted from k. -/
def allFrom (f : Nat → α → Bool) : List α → Nat → Bool
 | [], _ => true
 | x :: l, k => f k x && allFrom f l (k + 1)
theorem allFrom_iff (f : Nat → α → Bool) (l : List α) (k : Nat) : allFrom f l k = true ↔ ∀ (j : Nat) (x : α), l[j]? = some x → f (k + j) x = true := by
 induction l generalizing k with
 | nil => simp [allFrom]
 | cons y l ih =>
  simp only [allFrom, Bool.and_eq_true, ih]
  constructor
  ·rintro ⟨h1, h2⟩ j x hx
   cases j with
   | zero => simp at hx; subst hx; simpa using h1
   | succ j => have := h2 j x (by simpa using hx); rwa [show k + (j + 1) = k + 1 + j by omega]
  ·intro h
   exact ⟨by simpa using h 0 y rfl, fun j x hx => by have := h (j + 1) x (by simpa using hx); rwa [show k + 1 + j = k + (j + 1) by omega]⟩
theorem allFrom_congr {f g : Nat → α → Bool} {l : List α} {k : Nat} (h : ∀ (j : Nat) (x : α), l[j]? = some x → f (k + j) x = g (k + j) x) : allFrom f l k = allFrom g l k := by
 induction l generalizing k with
 | nil => rfl
 | cons y l ih =>
  simp only [allFrom]
  rw [show f k y = g k y by simpa using h 0 y rfl, ih fun j x hx => by have := h (j + 1) x (by simpa using hx); rwa [show k + (j + 1) = k + 1 + j by omega] at this]
theorem idxGo_spec (p : α → Bool) (l : List α) (k : Nat) :
  (idxGo p l k = -1 ∧ ∀ (j : Nat) (x : α), l[j]? = some x → p x = false) ∨ ∃ (j : Nat) (x : α), l[j]? = some x ∧ p x = true ∧ idxGo p l k = ((k + j : Nat) : Int) ∧ ∀ (i : Nat) (y : α), i < j → l[i]? = some y → p y = false := by
 induction l generalizing k with
 | nil => exact .inl ⟨rfl, by simp⟩
 | cons y l ih =>
  simp only [idxGo]
  by_cases hp : p y = true
  ·rw [if_pos hp]
   exact .inr ⟨0, y, rfl, hp, by simp, by simp⟩
  ·rw [if_neg hp]
   have hp' : p y = false := by simpa using hp
   rcases ih (k + 1) with ⟨h1, h2⟩ | ⟨j, x, h1, h2, h3, h4⟩
   ·exact .inl ⟨h1, fun j x hx => by cases j with
     | zero => simp at hx; subst hx; exact hp'
     | succ j => exact h2 j x (by simpa using hx)⟩
   ·exact .inr ⟨j + 1, x, by simpa using h1, h2, by rw [h3]; omega, fun i z hi hz => by cases i with
     | zero => simp at hz; subst hz; exact hp'
     | succ i => exact h4 i z (by omega) (by simpa using hz)⟩
theorem idx_spec (p : α → Bool) (l : List α) : (idx p l = -1 ∧ ∀ (j : Nat) (x : α), l[j]? = some x → p x = false) ∨ ∃ (j : Nat) (x : α), l[j]? = some x ∧ p x = true ∧ idx p l = (j : Int) ∧ ∀ (i : Nat) (y : α), i < j → l[i]? = some y → p y = false := by
 have := idxGo_spec p l 0
 simpa [idx] using this
theorem idx_bd (p : α → Bool) (l : List α) : -1 ≤ idx p l ∧ idx p l < l.length := by
 rcases idx_spec p l with ⟨h, _⟩ | ⟨j, x, h1, _, h2, _⟩
 ·rw [h]; omega
 ·have := (List.getElem?_eq_some_iff.1 h1).1; rw [h2]; omega
theorem idx_at {p : α → Bool} {l : List α} (h : 0 ≤ idx p l) : ∃ (j : Nat) (x : α), l[j]? = some x ∧ p x = true ∧ idx p l = (j : Int) := by
 rcases idx_spec p l with ⟨h0, _⟩ | ⟨j, x, h1, h2, h3, _⟩
 ·omega
 ·exact ⟨j, x, h1, h2, h3⟩
theorem idxGo_map (f : β → α) (p : α → Bool) (l : List β) (k : Nat) : idxGo p (l.map f) k = idxGo (fun x => p (f x)) l k := by
 induction l generalizing k with
 | nil => rfl
 | cons y l ih => simp only [List.map_cons, idxGo, ih]
theorem idx_map (f : β → α) (p : α → Bool) (l : List β) : idx p (l.map f) = idx (fun x => p (f x)) l := idxGo_map f p l 0
theorem idx_neg_iff {p : α → Bool} {l : List α} : idx p l < 0 ↔ l.any p = false := by
 rcases idx_spec p l with ⟨h0, h⟩ | ⟨j, x, h1, h2, h3, _⟩
 ·rw [h0]
  simp only [List.any_eq_false, Int.reduceNeg, Int.reduceLT, true_iff]
  intro x hx
  obtain ⟨j, hj, rfl⟩ := List.getElem_of_mem hx
  simp [h j _ (List.getElem?_eq_getElem hj)]
 ·rw [h3]
  have : l.any p = true := List.any_eq_true.2 ⟨x, List.mem_of_getElem? h1, h2⟩
  simp [this]
theorem allFrom_and (f g : Nat → α → Bool) (l : List α) (k : Nat) : allFrom (fun i x => f i x && g i x) l k = (allFrom f l k && allFrom g l k) := by
 induction l generalizing k with
 | nil => rfl
 | cons y l ih => simp only [allFrom, ih]; cases f k y <;> cases g k y <;> simp
theorem allFrom_all (p : α → Bool) (l : List α) (k : Nat) : allFrom (fun _ x => p x) l k = l.all p := by
 induction l generalizing k with
 | nil => rfl
 | cons y l ih => simp only [allFrom, ih, List.all_cons]
theorem allFrom_map (f : Nat → α → Bool) (g : β → α) (l : List β) (k : Nat) : allFrom f (l.map g) k = allFrom (fun i x => f i (g x)) l k := by
 induction l generalizing k with
 | nil => rfl
 | cons y l ih => simp only [List.map_cons, allFrom, ih]
def sumI : List Int → Int
 | [] => 0
 | x :: l => x + sumI l
theorem sumI_append (a b : List Int) : sumI (a ++ b) = sumI a + sumI b := by
 induction a with
 | nil => simp [sumI]
 | cons x a ih => simp only [List.cons_append, sumI, ih]; omega
theorem sumI_bd {l : List Int} {lo hi : Int} (h : ∀ x, x ∈ l → lo ≤ x ∧ x ≤ hi) : lo * l.length ≤ sumI l ∧ sumI l ≤ hi * l.length := by
 induction l with
 | nil => simp [sumI]
 | cons x l ih =>
  have h1 := h x (by simp)
  have h2 := ih fun y hy => h y (by simp [hy])
  simp only [sumI, List.length_cons]
  push_cast
  rw [Int.mul_add, Int.mul_add]
  omega
theorem take_succ_at {l : List α} {k : Nat} {x : α} (h : l[k]? = some x) : l.take (k + 1) = l.take k ++ [x] := by
 rw [List.take_add_one, h]; rfl
end
end Go.Proofs.YtknhebakebmlcaaGreat
namespace Go.Proofs.YtknhebakebmlcaaGreat
open Go Go.RowKit
set_option linter.unusedVariables false
set_option maxRecDepth 100000
def inB (n lo hi : Int) : Bool := decide (lo ≤ n ∧ n ≤ hi)
theorem inB_t {n lo hi : Int} : inB n lo hi = true ↔ lo ≤ n ∧ n ≤ hi := by simp [inB]
theorem inB_f {n lo hi : Int} : inB n lo hi = false ↔ ¬ (lo ≤ n ∧ n ≤ hi) := by simp [inB]
theorem ret_int {k : IntKind} {a b : Int} (h : a = b) : Ending.returned (.int k a) = .returned (.int k b) := by rw [h]
theorem ret_bool {a b : Bool} (h : a = b) : Ending.returned (.bool a) = .returned (.bool b) := by rw [h]
def leastI (a b : Int) : Int := if a < b then a else b
theorem impl_within (n lo hi : Int) (w : World) : Calls Tryz.prog 94 #[.int .i64 n, .int .i64 lo, .int .i64 hi] w (RetS (.bool (inB n lo hi)) w) := by
 go_enter Tryz.func94, Tryz.ntmps94
 go_wp2
 all_goals
  go_ret
  exact ⟨ret_bool (by simp [inB]; try omega), rfl⟩
theorem spec_l1In (n lo hi : Int) (w : World) : Calls Tryz.prog 87 #[.int .i64 n, .int .i64 lo, .int .i64 hi] w (RetS (.bool (inB n lo hi)) w) := by
 go_enter Tryz.func87, Tryz.ntmps87
 go_wp2
 all_goals
  go_ret
  exact ⟨ret_bool (by simp [inB]; try omega), rfl⟩
theorem spec_l1Least (a b : Int) (w : World) : Calls Tryz.prog 133 #[.int .i64 a, .int .i64 b] w (RetS (.int .i64 (leastI a b)) w) := by
 go_enter Tryz.func133, Tryz.ntmps133
 go_wp2
 all_goals
  go_ret
  exact ⟨ret_int (by unfold leastI; split <;> omega), rfl⟩
end Go.Proofs.YtknhebakebmlcaaGreat
namespace Go.Proofs.YtknhebakebmlcaaGreat
open Go Go.RowKit
set_option linter.unusedVariables false
set_option maxRecDepth 100000
/-- A size check: below 0, or what is left after tot. -/
def RetSz (tot : Nat) (left : Int) (w : World) (e : Ending) (w' : World) : Prop := ∃ r : Int, e = .returned (.int .i64 r) ∧ (r < 0 ∨ 0 ≤ r ∧ r + tot = left) ∧ Later w w'
/-- A mark: the next number; the blocks fp alone have changed, and hold now what Q says. -/
def RetMk (k : Int) (fp : List Nat) (Q : World → Prop) (w : World) (e : Ending) (w' : World) : Prop := e = .returned (.int .i64 k) ∧ Touch fp w w' ∧ Q w'
/-- n numbers from k on. -/
def mkInts (k : Int) (n : Nat) : List Int := (List.range n).map fun (i : Nat) => k + (i : Int)
theorem mkInts_len (k : Int) (n : Nat) : (mkInts k n).length = n := by simp [mkInts]
theorem mkInts_at {k : Int} {n j : Nat} {x : Int} (h : (mkInts k n)[j]? = some x) : j < n ∧ x = k + j := by
 unfold mkInts at h
 rw [List.getElem?_map] at h
 by_cases hj : j < n
 ·rw [List.getElem?_range hj] at h; simp at h; exact ⟨hj, h.symm⟩
 ·rw [List.getElem?_eq_none (by simpa using hj)] at h; simp at h
theorem laws_toIntS {w0 w : World} {A : Option Addr} {n c : Nat} {l : List Int} (h : Ints w0 A n c l) (hl : Later w0 w) (hn : n ≤ 1048576) :
  Calls Tryz.prog 32 #[.slice A n c] w (RetO 1 oInt l w) := by
 obtain ⟨C0, hC0, hmk⟩ := make_row (P := Tryz.prog) 66 3 Tryz.underlying66 (show _ = some (some (.int .i64 0), 1, 8) by kernel_rfl) n (by omega) (by omega)
 replace h := h.later hl
 go_enter Tryz.func32, Tryz.ntmps32
 go_wp2
 go_loopw [4] (fun i wr => ∃ (k : Nat) (cs : Array Value), k ≤ n ∧ i = .int .i64 k ∧ Blk wr w.heap.size 3 cs ∧ cs.size = n ∧ (∀ (j : Nat) (x : Int), j < k → l[j]? = some x → cs[j]? = some (.int .i64 x) ∧ I64 x) ∧ Later w wr) (fun i _ => n - (intOf i).toNat)
 case atStart => exact ⟨0, C0, by omega, rfl, Blk.new _ _ _, by omega, fun j x hj => by omega, inferInstance⟩
 case round =>
  obtain ⟨k, cs, hk, rfl, hB, hsz, hcs, hX⟩ := hrel
  have HB := Lib.hid hB
  have HS := Lib.hid hcs
  have Hsz := Lib.hid hsz
  by_cases hlt : k < n
  ·obtain ⟨b, o, x, rfl, hx, hc, hi⟩ := Ints.at_ h hlt
   obtain ⟨v0, hv0⟩ := hB.get (i := k) (by omega)
   have hfz := hB.frozen k
   clear hB hcs hsz
   go_wp2
   go_roundw
   case rel =>
    refine ⟨k + 1, cs.setIfInBounds k (.int .i64 x), by omega, by go_num, HB.out.set_ k _, by have := Hsz.out; simpa using this, fun j y hj hy => ?_, inferInstance⟩
    by_cases e : j = k
    ·subst e
     rw [set_eq _ (by have := Hsz.out; omega), Option.some.inj (hx.out.symm.trans hy)]
     rw [Option.some.inj (hx.out.symm.trans hy)] at hi
     exact ⟨rfl, hi⟩
    ·rw [set_ne _ e]; exact HS.out j y (by omega) hy
   case measure => simp [intOf]; omega
  ·clear hB hcs hsz
   go_wp2
   go_ret
   exact ⟨_, _, _, _, rfl, OSl.ints_blk HB.out h.len (by omega) (fun j x hx => HS.out j x (by have := (List.getElem?_eq_some_iff.1 hx).1; have := h.len; omega) hx), by simp, by simp, inferInstance⟩
theorem laws_szIntS {w0 w : World} {A : Option Addr} {n c : Nat} {l : List Int} {left : Int} (h : Ints w0 A n c l) (h0 : 0 ≤ left) (h1 : left ≤ 1048576) :
  Calls Tryz.prog 27 #[.slice A n c, .int .i64 left] w (RetSz l.length left w) := by
 have hn := h.le
 have hl := Lib.hid h.len
 clear h
 go_enter Tryz.func27, Tryz.ntmps27
 go_wp2
 ·go_ret
  exact ⟨_, rfl, .inl (by omega), inferInstance⟩
 ·go_ret
  exact ⟨_, rfl, .inr ⟨by have := hl.out; omega, by rw [← hl.out]; simp⟩, inferInstance⟩
theorem laws_eqIntS {w0 w1 w : World} {A B : Option Addr} {n c m d : Nat} {l r : List Int} (h : Ints w0 A n c l) (hl : Later w0 w) (h1 : Ints w1 B m d r) (hl1 : Later w1 w) :
  Calls Tryz.prog 37 #[.slice A n c, .slice B m d] w (Ret (.bool (decide (l = r))) w) := by
 replace h := h.later hl
 replace h1 := h1.later hl1
 have hn := h.le
 have hm := h1.le
 by_cases hnm : n = m
 ·subst hnm
  have hcont : ((n : Int) != n) = false := by simp
  go_enter Tryz.func37, Tryz.ntmps37
  go_wp2
  go_loopw [5] (fun i wr => ∃ k : Nat, k ≤ n ∧ i = .int .i64 k ∧ Hid (l.drop k = r.drop k ↔ l = r) ∧ Later w wr) (fun i _ => n - (intOf i).toNat)
  case atStart => exact ⟨0, by omega, rfl, Iff.rfl, inferInstance⟩
  case round =>
   obtain ⟨k, hk, rfl, HF, hX⟩ := hrel
   by_cases hlt : k < n
   ·obtain ⟨b, o, x, rfl, hx, hc, hi⟩ := Ints.at_ h hlt
    obtain ⟨b', o', y, rfl, hy, hc', hi'⟩ := Ints.at_ h1 hlt
    have hd := drop_at hx.out
    have hd' := drop_at hy.out
    by_cases hxy : x = y
    ·have HF2 : Hid (l.drop (k + 1) = r.drop (k + 1) ↔ l = r) := by rw [← HF.out, hd, hd', hxy]; show _ ↔ _; simp
     have hb : (x != y) = false := by simpa using hxy
     clear hxy hd hd'
     go_wp2
     go_quiet (fail)
     go_wp2
     go_roundw
     case rel => exact ⟨k + 1, by omega, by go_num, HF2, inferInstance⟩
     case measure => simp [intOf]; omega
    ·have HF2 : Hid (l ≠ r) := by rw [hd, hd'] at HF; intro e; have := HF.out.2 e; simp at this; exact hxy this.1
     have hb : (x != y) = true := by simpa using hxy
     clear hxy hd hd'
     go_wp2
     go_quiet (fail)
     go_wp2
     go_ret
     exact ⟨ret_bool (by rw [decide_eq_false HF2.out]), inferInstance⟩
   ·have H2 : Hid (l = r) := by
     rw [List.drop_eq_nil_of_le (by have := h.len; omega), List.drop_eq_nil_of_le (by have := h1.len; omega)] at HF
     exact HF.out.1 rfl
    go_wp2
    go_ret
    exact ⟨ret_bool (by rw [decide_eq_true H2.out]), inferInstance⟩
 ·have H2 : Hid (l ≠ r) := by intro e; apply hnm; rw [h.len, h1.len, e]
  have hb : ((n : Int) != m) = true := by rw [bne_iff_ne]; omega
  clear hnm
  go_enter Tryz.func37, Tryz.ntmps37
  go_wp2
  go_ret
  exact ⟨ret_bool (by rw [decide_eq_false H2.out]), inferInstance⟩
theorem laws_markIntS {w : World} {A : Option Addr} {n c : Nat} {l : List Int} {fp : List Nat} {k0 : Int} (h : OSl 1 oInt w A n c l fp) (h0 : 0 ≤ k0) (h1 : k0 + n ≤ 4611686018427387904) :
  Calls Tryz.prog 45 #[.slice A n c, .int .i64 k0] w (RetMk (k0 + n) fp (fun w' => OSl 1 oInt w' A n c (mkInts k0 n) fp) w) := by
 have hn : n ≤ 9223372036854775807 := Nat.le_trans h.cap h.max
 have Hh := Lib.hid h
 rcases h.own with ⟨rfl, rfl⟩ | ⟨g, o, t, cs0, fps, rfl, hB0, rfl, hfl, hel⟩
 ·obtain rfl : n = 0 := Hh.out.len
  clear h
  go_enter Tryz.func45, Tryz.ntmps45
  go_wp2
  go_loop [1, 5] (fun q i => i = .int .i64 0 ∧ q = .int .i64 k0) (fun q i => 0)
  case atStart => exact ⟨rfl, rfl⟩
  case round =>
   obtain ⟨rfl, rfl⟩ := hrel
   go_wp2
   go_ret
   exact ⟨rfl, Touch.refl_, by simpa [mkInts] using Hh.out⟩
 ·have hlen := Lib.hid h.len
  have HC : Hid (∀ j, j < n → ∃ v, cs0[o + j]? = some v) := fun j hj => by
   obtain ⟨es, f, _, he, hc, _⟩ := hel j l[j]?.get! (by rw [List.getElem?_eq_getElem (by have := hlen.out; omega)]; rfl)
   match es, he with
   | [v], _ => exact ⟨v, by simpa using hc 0 v rfl⟩
  have HE : Hid (∀ (k : Nat) (x : Int), l[k]? = some x → fps[k]? = some []) := fun k x hx => by
   obtain ⟨es, f, hf, _, _, hr⟩ := hel k x hx
   rw [hf, hr.2]
  have HB0 := Lib.hid hB0
  have Hfl := Lib.hid hfl
  clear h hel hB0 hfl
  go_enter Tryz.func45, Tryz.ntmps45
  go_wp2
  go_loopw [1, 5] (fun q i wr => ∃ (k : Nat) (cs : Array Value), k ≤ n ∧ i = .int .i64 k ∧ q = .int .i64 (k0 + k) ∧ Blk wr g t cs ∧ cs.size = cs0.size ∧ (∀ j : Nat, j < k → cs[o + j]? = some (.int .i64 (k0 + j))) ∧ Touch (g :: fps.flatten) w wr) (fun _ i _ => n - (intOf i).toNat)
  case atStart => exact ⟨0, cs0, by omega, rfl, by simp, HB0.out, rfl, fun j hj => by omega, Touch.refl_⟩
  case round =>
   obtain ⟨k, cs, hk, rfl, rfl, hB, hsz, hcs, hX⟩ := hrel
   have HB := Lib.hid hB
   have HS := Lib.hid hcs
   have Hsz := Lib.hid hsz
   by_cases hlt : k < n
   ·have hok : o + k < cs.size := by
     obtain ⟨v, hv⟩ := HC.out k hlt
     have := (Array.getElem?_eq_some_iff.1 hv).1
     have := Hsz.out
     omega
    obtain ⟨v0, hv0⟩ := hB.get (i := o + k) hok
    have hfz := hB.frozen (o + k)
    clear hB hcs hsz
    go_wp2
    go_roundw
    case rel =>
     refine ⟨k + 1, cs.setIfInBounds (o + k) (.int .i64 (k0 + k)), by omega, by go_num, by go_num, HB.out.set_ _ _, by have := Hsz.out; simpa using this, fun j hj => ?_, hX.set_ (by simp) _ _⟩
     by_cases e : j = k
     ·subst e; exact set_eq _ hok
     ·rw [set_ne _ (by omega)]; exact HS.out j (by omega)
    case measure => simp [intOf]; omega
   ·have hkn : k = n := by omega
    clear hB hcs hsz
    go_wp2
    go_ret
    subst hkn
    refine ⟨rfl, hX, ⟨by rw [mkInts_len], Hh.out.cap, Hh.out.max, .inr ⟨g, o, t, cs, fps, rfl, HB.out, rfl, by rw [mkInts_len, Hfl.out, hlen.out], fun j x hx => ?_⟩⟩⟩
    obtain ⟨hj, rfl⟩ := mkInts_at hx
    refine ⟨[.int .i64 (k0 + j)], [], HE.out j l[j]?.get! (by rw [List.getElem?_eq_getElem (by have := hlen.out; omega)]; rfl), rfl, fun j' v hv => ?_, fun _ => ⟨rfl, by unfold I64; omega⟩, rfl⟩
    match j', hv with
    | 0, hv => simp at hv; subst hv; simpa using HS.out j hj
theorem laws_heldIntS {w0 w : World} {A : Option Addr} {n c : Nat} {m : Nat} {k0 : Int} (h : Ints w0 A n c (mkInts k0 m)) (hl : Later w0 w) (h0 : 0 ≤ k0) (h1 : k0 + m ≤ 4611686018427387904) :
  Calls Tryz.prog 79 #[.slice A n c, .int .i64 k0] w (Ret (.int .i64 (k0 + m)) w) := by
 replace h := h.later hl
 have hn := h.le
 obtain rfl : n = m := by rw [h.len, mkInts_len]
 go_enter Tryz.func79, Tryz.ntmps79
 go_wp2
 go_loopw [1, 5] (fun q i wr => ∃ (k : Nat), k ≤ n ∧ i = .int .i64 k ∧ q = .int .i64 (k0 + k) ∧ Later w wr) (fun _ i _ => n - (intOf i).toNat)
 case atStart => exact ⟨0, by omega, rfl, by simp, inferInstance⟩
 case round =>
  obtain ⟨k, hk, rfl, rfl, hX⟩ := hrel
  by_cases hlt : k < n
  ·obtain ⟨b, o, x, rfl, hx, hc, hi⟩ := Ints.at_ h hlt
   obtain ⟨_, rfl⟩ := mkInts_at hx.out
   clear hx
   have hb : (k0 + (k : Int) != k0 + k) = false := by simp
   go_wp2
   go_roundw
   case rel => exact ⟨k + 1, by omega, by go_num, by go_num, inferInstance⟩
   case measure => simp [intOf]; omega
  ·have hkn : k = n := by omega
   go_wp2
   go_ret
   subst hkn
   exact ⟨rfl, inferInstance⟩
end Go.Proofs.YtknhebakebmlcaaGreat
namespace Go.Proofs.YtknhebakebmlcaaGreat
open Go Go.RowKit
set_option linter.unusedVariables false
set_option maxRecDepth 100000
theorem Touch.set_one (w : World) (g o : Nat) (v : Value) : Touch [g] w (w.setCell ⟨g, o, none⟩ v) := Touch.refl_.set_ (by simp) o v
theorem flatten_snoc (fps : List (List Nat)) (f : List Nat) : (fps ++ [f]).flatten = fps.flatten ++ f := by simp
/-- k elements of l are laid in block g; fps: the blocks of each. -/
structure Built {α : Type} (sz : Nat) (ro : ORep α) (w wr : World) (g : Nat) (t : TypeId) (l : List α) (n k : Nat) (cs : Array Value) (fps : List (List Nat)) : Prop where
 blk : Blk wr g t cs
 size : cs.size = n * sz
 len : fps.length = k
 nodup : (g :: fps.flatten).Nodup
 lo : ∀ b, b ∈ g :: fps.flatten → w.heap.size ≤ b
 lt : ∀ b, b ∈ g :: fps.flatten → b < wr.heap.size
 el : ∀ (j : Nat) (x : α), j < k → l[j]? = some x → ∃ es f, fps[j]? = some f ∧ es.length = sz ∧ (∀ (i : Nat) (v : Value), es[i]? = some v → cs[j * sz + i]? = some v) ∧ ro wr es x f
section
variable {α : Type} {sz : Nat} {ro : ORep α} {w wr w1 w2 : World} {g : Nat} {t : TypeId} {l : List α} {n k : Nat} {cs cs' : Array Value} {fps : List (List Nat)}
theorem Built.start (h : Blk wr g t cs) (hs : cs.size = n * sz) (hg : w.heap.size ≤ g) : Built sz ro w wr g t l n 0 cs [] :=
 ⟨h, hs, rfl, by simp, by simpa using hg, by simpa using h.lt, fun j x hj => by omega⟩
theorem Built.step [OStays ro] (h : Built sz ro w wr g t l n k cs fps) (hL : Later wr w1) {es : List Value} {x : α} {f : List Nat} (hx : l[k]? = some x) (hro : ro w1 es x f) (hnd : f.Nodup) (hlo : ∀ b, b ∈ f → wr.heap.size ≤ b)
  (hT : Touch [g] w1 w2) (hw : Later w wr) (hB2 : Blk w2 g t cs') (hs2 : cs'.size = n * sz) (hes : es.length = sz) (hold : ∀ i, i < k * sz → cs'[i]? = cs[i]?) (hnew : ∀ (i : Nat) (v : Value), es[i]? = some v → cs'[k * sz + i]? = some v) :
  Built sz ro w w2 g t l n (k + 1) cs' (fps ++ [f]) := by
 have hf1 : ∀ b, b ∈ f → b < w1.heap.size := OStays.lt hro
 have hgf : g ∉ f := fun hg => by have := hlo g hg; have := h.blk.lt; omega
 have hro2 : ro w2 es x f := OStays.keep (fun b hb => hT.block b (hf1 b hb) (by simpa using fun e : b = g => hgf (e ▸ hb))) hro
 refine ⟨hB2, hs2, by simp [h.len], ?_, ?_, ?_, ?_⟩
 ·rw [flatten_snoc, ← List.cons_append, List.nodup_append]
  refine ⟨h.nodup, hnd, fun a ha b hb e => ?_⟩
  subst e
  have := h.lt a ha
  have := hlo a hb
  omega
 ·intro b hb
  rw [flatten_snoc, ← List.cons_append, List.mem_append] at hb
  rcases hb with hb | hb
  ·exact h.lo b hb
  ·have := hlo b hb; have := hw.size; omega
 ·intro b hb
  rw [flatten_snoc, ← List.cons_append, List.mem_append] at hb
  rcases hb with hb | hb
  ·have := h.lt b hb; have := hL.size; have := hT.size; omega
  ·have := hf1 b hb; have := hT.size; omega
 ·intro j y hj hy
  by_cases e : j = k
  ·subst e
   obtain rfl := Option.some.inj (hx.symm.trans hy)
   exact ⟨es, f, by rw [List.getElem?_append_right (by rw [h.len]; omega)]; simp [h.len], hes, hnew, hro2⟩
  ·have hjk : j < k := by omega
   obtain ⟨es', f', hf', he', hc', hr'⟩ := h.el j y hjk hy
   refine ⟨es', f', by rw [List.getElem?_append_left (by rw [h.len]; omega)]; exact hf', he', fun i v hv => ?_, ?_⟩
   ·have hi : i < sz := by rw [← he']; exact (List.getElem?_eq_some_iff.1 hv).1
    have hb : j * sz + i < k * sz := by
     have : (j + 1) * sz ≤ k * sz := Nat.mul_le_mul_right sz (by omega)
     rw [Nat.add_mul] at this
     omega
    rw [hold _ hb]
    exact hc' i v hv
   ·have hr1 : ro w1 es' y f' := OStays.keep (fun b hb => hL.below.block b (h.lt b (List.mem_cons_of_mem _ (mem_flatten_at hf' hb)))) hr'
    refine OStays.keep (fun b hb => hT.block b (OStays.lt hr1 b hb) ?_) hr1
    have := (List.nodup_cons.1 h.nodup).1
    simpa using fun e : b = g => this (e ▸ mem_flatten_at hf' hb)
theorem Built.done (h : Built sz ro w wr g t l n k cs fps) (hk : k = n) (hn : n = l.length) (hm : n ≤ 9223372036854775807) : OSl sz ro wr (some ⟨g, 0, none⟩) n n l (g :: fps.flatten) :=
 ⟨hn, Nat.le_refl _, hm, .inr ⟨g, 0, t, cs, fps, rfl, h.blk, rfl, by rw [h.len, hk, hn], fun j x hx => by
  obtain ⟨es, f, h1, h2, h3, h4⟩ := h.el j x (by have := (List.getElem?_eq_some_iff.1 hx).1; omega) hx
  exact ⟨es, f, h1, h2, by simpa using h3, h4⟩⟩⟩
end
/-- One element of an owned slice: its cells, and how the slice reads once it has been changed. -/
theorem OSl.elem {α : Type} {sz : Nat} {ro : ORep α} [OStays ro] {w : World} {A : Option Addr} {n c : Nat} {l : List α} {fp : List Nat} (h : OSl sz ro w A n c l fp) (hnd : fp.Nodup) {k : Nat} {x : α} (hx : l[k]? = some x) :
  ∃ g o t cs es f, A = some ⟨g, o, none⟩ ∧ Blk w g t cs ∧ g ∈ fp ∧ g ∉ f ∧ (∀ b, b ∈ f → b ∈ fp) ∧ f.Nodup ∧ es.length = sz ∧ (∀ (j : Nat) (v : Value), es[j]? = some v → cs[o + k * sz + j]? = some v) ∧ ro w es x f ∧
   ∀ (w' : World) (cs' : Array Value) (es' : List Value) (x' : α), Touch (g :: f) w w' → Blk w' g t cs' → (∀ i, ¬ (o + k * sz ≤ i ∧ i < o + k * sz + sz) → cs'[i]? = cs[i]?) → es'.length = sz → (∀ (j : Nat) (v : Value), es'[j]? = some v → cs'[o + k * sz + j]? = some v) →
    ro w' es' x' f → OSl sz ro w' A n c (l.set k x') fp := by
 have hk := (List.getElem?_eq_some_iff.1 hx).1
 rcases h.own with ⟨rfl, _⟩ | ⟨g, o, t, cs, fps, rfl, hb, rfl, hl, hel⟩
 ·simp at hx
 obtain ⟨es, f, hf, he, hc, hr⟩ := hel k x hx
 have hgn := (List.nodup_cons.1 hnd).1
 have hfn := (List.nodup_cons.1 hnd).2
 have hin : ∀ b, b ∈ f → b ∈ fps.flatten := fun b hb' => mem_flatten_at hf hb'
 have hpair : ∀ (j : Nat) (f' : List Nat), j ≠ k → fps[j]? = some f' → ∀ b, b ∈ f' → b ∉ f := by
  intro j f' hjk hf' b hb1 hb2
  have hp := List.pairwise_iff_getElem.1 (List.pairwise_flatten.1 hfn).2
  obtain ⟨hj, rfl⟩ := List.getElem?_eq_some_iff.1 hf'
  obtain ⟨hk', rfl⟩ := List.getElem?_eq_some_iff.1 hf
  rcases Nat.lt_or_gt_of_ne hjk with hlt | hgt
  ·exact hp j k hj hk' hlt b hb1 b hb2 rfl
  ·exact hp k j hk' hj hgt b hb2 b hb1 rfl
 refine ⟨g, o, t, cs, es, f, rfl, hb, by simp, fun hg => hgn (hin g hg), fun b hb' => List.mem_cons_of_mem _ (hin b hb'), (List.pairwise_flatten.1 hfn).1 f (List.mem_of_getElem? hf), he, hc, hr, ?_⟩
 intro w' cs' es' x' hT hB' hsame he' hc' hr'
 refine ⟨by rw [List.length_set]; exact h.len, h.cap, h.max, .inr ⟨g, o, t, cs', fps, rfl, hB', rfl, by rw [List.length_set]; exact hl, fun j y hy => ?_⟩⟩
 by_cases e : j = k
 ·subst e
  rw [List.getElem?_set_self hk] at hy
  obtain rfl := Option.some.inj hy
  exact ⟨es', f, hf, he', hc', hr'⟩
 ·rw [List.getElem?_set_ne (Ne.symm e)] at hy
  obtain ⟨es2, f2, hf2, he2, hc2, hr2⟩ := hel j y hy
  refine ⟨es2, f2, hf2, he2, fun i v hv => ?_, ?_⟩
  ·have hi : i < sz := by rw [← he2]; exact (List.getElem?_eq_some_iff.1 hv).1
   rw [hsame]
   ·exact hc2 i v hv
   ·rintro ⟨h1, h2⟩
    rcases Nat.lt_or_gt_of_ne e with hlt | hgt
    ·have : (j + 1) * sz ≤ k * sz := Nat.mul_le_mul_right sz (by omega)
     rw [Nat.add_mul] at this; omega
    ·have : (k + 1) * sz ≤ j * sz := Nat.mul_le_mul_right sz (by omega)
     rw [Nat.add_mul] at this; omega
  ·refine OStays.keep (fun b hb' => hT.block b (OStays.lt hr2 b hb') ?_) hr2
   intro hm
   rcases List.mem_cons.1 hm with rfl | hm
   ·exact hgn (mem_flatten_at hf2 hb')
   ·exact hpair j f2 e hf2 b hb' hm
end Go.Proofs.YtknhebakebmlcaaGreat
namespace Go.Proofs.YtknhebakebmlcaaGreat
open Go Go.RowKit
set_option linter.unusedVariables false
set_option maxRecDepth 100000
def sumStr : List ByteArray → Nat
 | [] => 0
 | x :: l => x.size + sumStr l
def totStrs (l : List ByteArray) : Nat := l.length + sumStr l
theorem sumStr_drop {l : List ByteArray} {k : Nat} {x : ByteArray} (h : l[k]? = some x) : sumStr (l.drop k) = x.size + sumStr (l.drop (k + 1)) := by rw [drop_at h]; rfl
abbrev Strs := Sl 1 rStr
theorem Strs.at_ {w : World} {A : Option Addr} {n c : Nat} {l : List ByteArray} (h : Strs w A n c l) {k : Nat} (hk : k < n) :
  ∃ b o x, A = some ⟨b, o, none⟩ ∧ Hid (l[k]? = some x) ∧ (∀ W [Later w W], W.cell? ⟨b, o + k, none⟩ = some (.string x)) ∧ x.size ≤ 9223372036854775807 := by
 obtain ⟨b, o, v, x, ha, hx, hc, hr⟩ := h.at1 hk
 obtain ⟨he, hi⟩ := hr
 cases he
 exact ⟨b, o, x, ha, hx, hc, by simpa [maxLen] using hi⟩
theorem str_ne {x y : ByteArray} (h : x ≠ y) : (x.data.toList == y.data.toList) = false := by rw [beq_eq_false_iff_ne]; intro e; exact h (ByteArray.ext (Array.toList_inj.1 e))
theorem strL_ne {x y : ByteArray} (h : x ≠ y) : (x.toList == y.toList) = false := by rw [ByteArray.toList_eq, ByteArray.toList_eq]; exact str_ne h
theorem strL_eq {x y : ByteArray} (h : x = y) : (x.toList == y.toList) = true := by rw [h]; simp
theorem OSl.strs_blk {w : World} {g n : Nat} {t : TypeId} {cs : Array Value} {l : List ByteArray} (hb : Blk w g t cs) (hn : n = l.length) (hm : n ≤ 9223372036854775807)
  (hel : ∀ (k : Nat) (x : ByteArray), l[k]? = some x → cs[k]? = some (.string x) ∧ x.size ≤ maxLen) : OSl 1 oStr w (some ⟨g, 0, none⟩) n n l [g] := by
 obtain ⟨fp, ho, hfp⟩ := OSl.of_blk (sz := 1) (r := rStr) (l := l) (n := n) (c := n) hb hn (Nat.le_refl _) hm (fun j x hx => by
  obtain ⟨h1, h2⟩ := hel j x hx
  exact ⟨[.string x], rfl, fun j' v hv => by
   match j', hv with
   | 0, hv => simp at hv; subst hv; simpa using h1, fun _ => ⟨rfl, h2⟩⟩)
 subst hfp
 exact ho
theorem infoStr : (Tryz.prog.info? 9).map (fun i => (i.zero, i.size, i.bytes)) = some (some (.string ByteArray.empty), 1, 16) := by kernel_rfl
theorem laws_toStringS {w0 w : World} {A : Option Addr} {n c : Nat} {l : List ByteArray} (h : Strs w0 A n c l) (hl : Later w0 w) (hn : totStrs l ≤ 1048576) :
  Calls Tryz.prog 50 #[.slice A n c] w (RetO 1 oStr l w) := by
 have hn0 : n ≤ 1048576 := by have := h.len; unfold totStrs at hn; omega
 obtain ⟨C0, hC0, hmk⟩ := make_row (P := Tryz.prog) 22 9 Tryz.underlying22 infoStr n (by omega) (by omega)
 replace h := h.later hl
 go_enter Tryz.func50, Tryz.ntmps50
 go_wp2
 go_loopw [4] (fun i wr => ∃ (k : Nat) (cs : Array Value), k ≤ n ∧ i = .int .i64 k ∧ Blk wr w.heap.size 9 cs ∧ cs.size = n ∧ (∀ (j : Nat) (x : ByteArray), j < k → l[j]? = some x → cs[j]? = some (.string x) ∧ x.size ≤ maxLen) ∧ Later w wr) (fun i _ => n - (intOf i).toNat)
 case atStart => exact ⟨0, C0, by omega, rfl, Blk.new _ _ _, by omega, fun j x hj => by omega, inferInstance⟩
 case round =>
  obtain ⟨k, cs, hk, rfl, hB, hsz, hcs, hX⟩ := hrel
  have HB := Lib.hid hB
  have HS := Lib.hid hcs
  have Hsz := Lib.hid hsz
  by_cases hlt : k < n
  ·obtain ⟨b, o, x, rfl, hx, hc, hi⟩ := Strs.at_ h hlt
   obtain ⟨v0, hv0⟩ := hB.get (i := k) (by omega)
   have hfz := hB.frozen k
   clear hB hcs hsz
   go_wp2
   go_roundw
   case rel =>
    refine ⟨k + 1, cs.setIfInBounds k (.string x), by omega, by go_num, HB.out.set_ k _, by have := Hsz.out; simpa using this, fun j y hj hy => ?_, inferInstance⟩
    by_cases e : j = k
    ·subst e
     rw [set_eq _ (by have := Hsz.out; omega), Option.some.inj (hx.out.symm.trans hy)]
     rw [Option.some.inj (hx.out.symm.trans hy)] at hi
     exact ⟨rfl, hi⟩
    ·rw [set_ne _ e]; exact HS.out j y (by omega) hy
   case measure => simp [intOf]; omega
  ·clear hB hcs hsz
   go_wp2
   go_ret
   exact ⟨_, _, _, _, rfl, OSl.strs_blk HB.out h.len (by omega) (fun j x hx => HS.out j x (by have := (List.getElem?_eq_some_iff.1 hx).1; have := h.len; omega) hx), by simp, by simp, inferInstance⟩
theorem laws_szStringS {w0 w : World} {A : Option Addr} {n c : Nat} {l : List ByteArray} {left : Int} (h : Strs w0 A n c l) (hl : Later w0 w) (h0 : 0 ≤ left) (h1 : left ≤ 1048576) :
  Calls Tryz.prog 47 #[.slice A n c, .int .i64 left] w (RetSz (totStrs l) left w) := by
 replace h := h.later hl
 have hn := h.le
 have hl := Lib.hid h.len
 go_enter Tryz.func47, Tryz.ntmps47
 go_wp2_with fail
 ·go_ret
  exact ⟨_, rfl, .inl (by omega), inferInstance⟩
 go_loopw [5, 1] (fun i q wr => ∃ (k : Nat) (r : Int), k ≤ n ∧ i = .int .i64 k ∧ q = .int .i64 r ∧ 0 ≤ r ∧ r ≤ 1048576 ∧ Hid (r - sumStr (l.drop k) = left - totStrs l) ∧ Later w wr) (fun i _ _ => n - (intOf i).toNat)
 case atStart => exact ⟨0, left - n, by omega, rfl, rfl, by omega, by omega, by unfold totStrs; rw [← hl.out]; show _ = _; simp only [List.drop_zero]; omega, inferInstance⟩
 case round =>
  obtain ⟨k, r, hk, rfl, rfl, hr0, hr1, HF, hX⟩ := hrel
  by_cases hlt : k < n
  ·obtain ⟨b, o, x, rfl, hx, hc, hi⟩ := Strs.at_ h hlt
   have hd := Lib.hid (sumStr_drop hx.out)
   by_cases hneg : r - (x.size : Int) < 0
   ·go_wp2
    go_ret
    exact ⟨_, rfl, .inl (by omega), inferInstance⟩
   ·have HF2 : Hid ((r - x.size) - sumStr (l.drop (k + 1)) = left - totStrs l) := by have := HF.out; have := hd.out; show _ = _; omega
    go_wp2
    go_roundw
    case rel => exact ⟨k + 1, r - x.size, by omega, by go_num, rfl, by omega, by omega, HF2, inferInstance⟩
    case measure => simp [intOf]; omega
  ·have HF2 := HF.out
   have hkn : k = n := by omega
   rw [List.drop_eq_nil_of_le (by have := hl.out; omega)] at HF2
   have HF3 : Hid (r + totStrs l = left) := by show _ = _; simp only [sumStr] at HF2; omega
   clear HF2
   go_wp2
   go_ret
   exact ⟨_, rfl, .inr ⟨hr0, HF3.out⟩, inferInstance⟩
theorem laws_eqStringS {w0 w1 w : World} {A B : Option Addr} {n c m d : Nat} {l r : List ByteArray} (h : Strs w0 A n c l) (hl : Later w0 w) (h1 : Strs w1 B m d r) (hl1 : Later w1 w) :
  Calls Tryz.prog 58 #[.slice A n c, .slice B m d] w (Ret (.bool (decide (l = r))) w) := by
 replace h := h.later hl
 replace h1 := h1.later hl1
 have hn := h.le
 have hm := h1.le
 by_cases hnm : n = m
 ·subst hnm
  have hcont : ((n : Int) != n) = false := by simp
  go_enter Tryz.func58, Tryz.ntmps58
  go_wp2
  go_loopw [5] (fun i wr => ∃ k : Nat, k ≤ n ∧ i = .int .i64 k ∧ Hid (l.drop k = r.drop k ↔ l = r) ∧ Later w wr) (fun i _ => n - (intOf i).toNat)
  case atStart => exact ⟨0, by omega, rfl, Iff.rfl, inferInstance⟩
  case round =>
   obtain ⟨k, hk, rfl, HF, hX⟩ := hrel
   by_cases hlt : k < n
   ·obtain ⟨b, o, x, rfl, hx, hc, hi⟩ := Strs.at_ h hlt
    obtain ⟨b', o', y, rfl, hy, hc', hi'⟩ := Strs.at_ h1 hlt
    have hd := drop_at hx.out
    have hd' := drop_at hy.out
    by_cases hxy : x = y
    ·have HF2 : Hid (l.drop (k + 1) = r.drop (k + 1) ↔ l = r) := by rw [← HF.out, hd, hd', hxy]; show _ ↔ _; simp
     have hb := strL_eq hxy
     clear hxy hd hd'
     go_wp2
     go_quiet (fail)
     go_wp2
     go_roundw
     case rel => exact ⟨k + 1, by omega, by go_num, HF2, inferInstance⟩
     case measure => simp [intOf]; omega
    ·have HF2 : Hid (l ≠ r) := by rw [hd, hd'] at HF; intro e; have := HF.out.2 e; simp at this; exact hxy this.1
     have hb := strL_ne hxy
     clear hxy hd hd'
     go_wp2
     go_quiet (fail)
     go_wp2
     go_ret
     exact ⟨ret_bool (by rw [decide_eq_false HF2.out]), inferInstance⟩
   ·have H2 : Hid (l = r) := by
     rw [List.drop_eq_nil_of_le (by have := h.len; omega), List.drop_eq_nil_of_le (by have := h1.len; omega)] at HF
     exact HF.out.1 rfl
    go_wp2
    go_ret
    exact ⟨ret_bool (by rw [decide_eq_true H2.out]), inferInstance⟩
 ·have H2 : Hid (l ≠ r) := by intro e; apply hnm; rw [h.len, h1.len, e]
  have hb : ((n : Int) != m) = true := by rw [bne_iff_ne]; omega
  clear hnm
  go_enter Tryz.func58, Tryz.ntmps58
  go_wp2
  go_ret
  exact ⟨ret_bool (by rw [decide_eq_false H2.out]), inferInstance⟩
end Go.Proofs.YtknhebakebmlcaaGreat
namespace Go.Proofs.YtknhebakebmlcaaGreat
open Go Go.RowKit
set_option linter.unusedVariables false
set_option maxRecDepth 100000
def isLow (b : UInt8) : Bool := decide (97 ≤ (b.toNat : Int) ∧ (b.toNat : Int) ≤ 122)
def isDig (b : UInt8) : Bool := decide (48 ≤ (b.toNat : Int) ∧ (b.toNat : Int) ≤ 57)
def okChar (i : Nat) (b : UInt8) : Bool := isLow b || (decide (0 < i) && isDig b)
def okName (s : ByteArray) : Bool := decide (1 ≤ s.size ∧ s.size ≤ 8) && allFrom okChar s.data.toList 0
def nameIs (s : ByteArray) (t : ByteArray) : Bool := decide (t = s)
def intIs (s : Int) (t : Int) : Bool := decide (t = s)
def nameAt (l : List ByteArray) (i : Nat) (s : ByteArray) : Bool := okName s && decide (idx (nameIs s) l = i)
def okNames (l : List ByteArray) : Bool := allFrom (nameAt l) l 0
def stopAt (ns : Nat) (l : List Int) (i : Nat) (s : Int) : Bool := inB s 0 ((ns : Int) - 1) && decide (idx (intIs s) l = i)
def okLine (ns : Nat) (x : Line) : Bool := inB x.Stops.length 2 6 && decide (x.Runs.length + 1 = x.Stops.length) && allFrom (stopAt ns x.Stops) x.Stops 0 && x.Runs.all (fun r => inB r 1 60)
def okNetwork (n : Network) : Bool := inB n.Stops.length 2 8 && inB n.Lines.length 1 5 && okNames n.Stops && okNames (n.Lines.map Line.Name) && n.Lines.all (okLine n.Stops.length)
theorem bytes_at {s : ByteArray} {k : Nat} (h : k < s.size) : s.data.toList[k]? = some s[k] := by
 rw [List.getElem?_eq_getElem (by simpa using h)]; rfl
end Go.Proofs.YtknhebakebmlcaaGreat
namespace Go.Proofs.YtknhebakebmlcaaGreat
open Go Go.RowKit
set_option linter.unusedVariables false
set_option maxRecDepth 100000
structure LineFacts (ns : Nat) (x : Line) : Prop where
 stops : 2 ≤ x.Stops.length ∧ x.Stops.length ≤ 6
 runs : x.Runs.length + 1 = x.Stops.length
 mem : ∀ (i : Nat) (s : Int), x.Stops[i]? = some s → 0 ≤ s ∧ s < ns
 uniq : ∀ (i : Nat) (s : Int), x.Stops[i]? = some s → idx (intIs s) x.Stops = i
 run : ∀ r, r ∈ x.Runs → 1 ≤ r ∧ r ≤ 60
theorem lineFacts {ns : Nat} {x : Line} (h : okLine ns x = true) : LineFacts ns x := by
 simp only [okLine, Bool.and_eq_true, decide_eq_true_eq, allFrom_iff, List.all_eq_true, inB_t] at h
 obtain ⟨⟨⟨h1, h2⟩, h3⟩, h4⟩ := h
 refine ⟨by omega, h2, fun i s hs => ?_, fun i s hs => ?_, h4⟩
 ·have := h3 i s hs
  simp only [stopAt, Bool.and_eq_true, inB_t, decide_eq_true_eq] at this
  omega
 ·have := h3 i s hs
  simp only [stopAt, Bool.and_eq_true, decide_eq_true_eq] at this
  simpa using this.2
structure NetFacts (n : Network) : Prop where
 stops : 2 ≤ n.Stops.length ∧ n.Stops.length ≤ 8
 lines : 1 ≤ n.Lines.length ∧ n.Lines.length ≤ 5
 line : ∀ (i : Nat) (x : Line), n.Lines[i]? = some x → LineFacts n.Stops.length x
theorem netFacts {n : Network} (h : okNetwork n = true) : NetFacts n := by
 simp only [okNetwork, Bool.and_eq_true, inB_t, List.all_eq_true] at h
 obtain ⟨⟨⟨⟨h1, h2⟩, h3⟩, h4⟩, h5⟩ := h
 exact ⟨by omega, by omega, fun i x hx => lineFacts (h5 x (List.mem_of_getElem? hx))⟩
def lineAtT (t : Timetable) (i : Int) : Line := t.Network.Lines.getD i.toNat default
theorem lineAtT_of {t : Timetable} {m : Nat} {x : Line} (h : t.Network.Lines[m]? = some x) : lineAtT t m = x := by simp [lineAtT, List.getD, h]
def runSum (x : Line) (k : Nat) : Int := sumI (x.Runs.take k)
def timeAt (t : Timetable) (x : Trip) (k : Nat) : Int := x.Start + runSum (lineAtT t x.Line) k
def endAt (t : Timetable) (x : Trip) : Int := x.Start + sumI (lineAtT t x.Line).Runs
def okTime (v : Int) : Bool := inB v 0 1799
def tripOk (t : Timetable) (last : Int) (x : Trip) : Bool := decide (last < x.Id ∧ x.Id ≤ 999) && inB x.Line 0 ((t.Network.Lines.length : Int) - 1) && okTime x.Start && okTime (endAt t x)
def tripsGo (t : Timetable) : List Trip → Int → Bool
 | [], _ => true
 | x :: l, last => tripOk t last x && tripsGo t l x.Id
def okTimetable (t : Timetable) : Bool := okNetwork t.Network && decide (t.Trips.length ≤ 12) && tripsGo t t.Trips 0
theorem sumI_take_bd {l : List Int} (h : ∀ r, r ∈ l → 1 ≤ r ∧ r ≤ 60) (k : Nat) : 0 ≤ sumI (l.take k) ∧ sumI (l.take k) ≤ 60 * l.length := by
 have := sumI_bd (l := l.take k) (lo := 0) (hi := 60) fun x hx => by have := h x (List.mem_of_mem_take hx); omega
 have h2 : (l.take k).length ≤ l.length := List.length_take_le' _ _
 omega
theorem runSum_bd {ns : Nat} {x : Line} (h : LineFacts ns x) (k : Nat) : 0 ≤ runSum x k ∧ runSum x k ≤ 300 := by
 have := sumI_take_bd h.run k
 have h1 := h.stops
 have h2 := h.runs
 unfold runSum
 omega
theorem runSum_all {x : Line} {k : Nat} (h : x.Runs.length ≤ k) : runSum x k = sumI x.Runs := by unfold runSum; rw [List.take_of_length_le h]
theorem runSum_succ {x : Line} {k : Nat} {r : Int} (h : x.Runs[k]? = some r) : runSum x (k + 1) = runSum x k + r := by
 unfold runSum; rw [take_succ_at h, sumI_append]; simp [sumI]
structure TripFacts (t : Timetable) (x : Trip) : Prop where
 id : 1 ≤ x.Id ∧ x.Id ≤ 999
 line0 : 0 ≤ x.Line
 line1 : x.Line < t.Network.Lines.length
 start : 0 ≤ x.Start ∧ x.Start ≤ 1799
 fin : 0 ≤ endAt t x ∧ endAt t x ≤ 1799
theorem tripsGo_facts {t : Timetable} {l : List Trip} {last : Int} (hl : 0 ≤ last) (h : tripsGo t l last = true) :
  ∀ (i : Nat) (x : Trip), l[i]? = some x → TripFacts t x ∧ last < x.Id := by
 induction l generalizing last with
 | nil => intro i x hx; simp at hx
 | cons y l ih =>
  simp only [tripsGo, tripOk, okTime, Bool.and_eq_true, decide_eq_true_eq, inB_t] at h
  obtain ⟨⟨⟨⟨h1, h2⟩, h3⟩, h4⟩, h5⟩ := h
  intro i x hx
  cases i with
  | zero =>
   simp at hx; subst hx
   exact ⟨⟨by omega, by omega, by omega, by omega, by omega⟩, by omega⟩
  | succ i =>
   have := ih (last := y.Id) (by omega) h5 i x (by simpa using hx)
   exact ⟨this.1, by omega⟩
structure TimeFacts (t : Timetable) : Prop where
 net : NetFacts t.Network
 len : t.Trips.length ≤ 12
 trip : ∀ (i : Nat) (x : Trip), t.Trips[i]? = some x → TripFacts t x
theorem timeFacts {t : Timetable} (h : okTimetable t = true) : TimeFacts t := by
 simp only [okTimetable, Bool.and_eq_true, decide_eq_true_eq] at h
 obtain ⟨⟨h1, h2⟩, h3⟩ := h
 exact ⟨netFacts h1, h2, fun i x hx => (tripsGo_facts (by omega) h3 i x hx).1⟩
/-- The trip at a place. -/
def tripI (t : Timetable) (i : Int) : Trip := t.Trips.getD i.toNat default
theorem tripI_of {t : Timetable} {m : Nat} {x : Trip} (h : t.Trips[m]? = some x) : tripI t m = x := by simp [tripI, List.getD, h]
def lineI (t : Timetable) (i : Int) : Line := lineAtT t (tripI t i).Line
def timeI (t : Timetable) (i k : Int) : Int := timeAt t (tripI t i) k.toNat
def idIs (v : Int) (x : Trip) : Bool := decide (x.Id = v)
/-- The place of the trip of an id, or -1. -/
def findI (t : Timetable) (v : Int) : Int := idx (idIs v) t.Trips
theorem endAt_eq {t : Timetable} {x : Trip} {k : Nat} (h : (lineAtT t x.Line).Runs.length ≤ k) : timeAt t x k = endAt t x := by unfold timeAt endAt; rw [runSum_all h]
theorem lineAtT_facts {t : Timetable} (h : NetFacts t.Network) {v : Int} (h0 : 0 ≤ v) (h1 : v < t.Network.Lines.length) : LineFacts t.Network.Stops.length (lineAtT t v) := by
 obtain ⟨m, rfl⟩ := Int.eq_ofNat_of_zero_le h0
 have hm : m < t.Network.Lines.length := by omega
 rw [lineAtT_of (List.getElem?_eq_getElem hm)]
 exact h.line m _ (List.getElem?_eq_getElem hm)
theorem tripI_facts {t : Timetable} (h : TimeFacts t) {i : Int} (h0 : 0 ≤ i) (h1 : i < t.Trips.length) : TripFacts t (tripI t i) := by
 obtain ⟨m, rfl⟩ := Int.eq_ofNat_of_zero_le h0
 have hm : m < t.Trips.length := by omega
 rw [tripI_of (List.getElem?_eq_getElem hm)]
 exact h.trip m _ (List.getElem?_eq_getElem hm)
theorem lineI_facts {t : Timetable} (h : TimeFacts t) {i : Int} (h0 : 0 ≤ i) (h1 : i < t.Trips.length) : LineFacts t.Network.Stops.length (lineI t i) :=
 let f := tripI_facts h h0 h1; lineAtT_facts h.net f.line0 f.line1
theorem findI_bd (t : Timetable) (v : Int) : -1 ≤ findI t v ∧ findI t v < t.Trips.length := idx_bd _ _
theorem findI_id {t : Timetable} {v : Int} (h : 0 ≤ findI t v) : (tripI t (findI t v)).Id = v := by
 obtain ⟨j, x, h1, h2, h3⟩ := idx_at h
 have h4 : findI t v = j := h3
 rw [h4, tripI_of h1]
 simpa [idIs] using h2
end Go.Proofs.YtknhebakebmlcaaGreat
namespace Go.Proofs.YtknhebakebmlcaaGreat
open Go Go.RowKit
set_option linter.unusedVariables false
set_option maxRecDepth 100000
theorem infoInt : (Tryz.prog.info? 3).map (fun i => (i.zero, i.size, i.bytes)) = some (some (.int .i64 0), 1, 8) := by kernel_rfl
/-- append(s, x): one element more; w0 is the world as of which old blocks stay. -/
theorem wpList_app_B {P : Program} {ops : Array Oper} {rest : List Oper} {o : Oper} {a : Act} {Q : Exit → Act → World → Prop} (hgd : o.guard = none) (s x : Operand) (t : TypeId)
  (ho : o.op = .call { callee := .builtin .append, args := #[s, x], argTypes := #[t, t] }) {e : TypeId} {z : Value} {size bytes : Nat} (ht : P.underlying t = some (.slice e))
  (hi : (P.info? e).map (fun i => (i.zero, i.size, i.bytes)) = some (some z, size, bytes)) (hz : z.cells.size = size) (hsz : 0 < size) (hby : bytes ≤ 4096)
  {w0 W : World} {base : Nat} {v : Value} {n : Nat} {xs : List Value} (hs : a.eval s = v) (hown : W.ownsRow base e size v n xs) (hL : Later w0 W) (hb0 : w0.heap.size ≤ base) (hb1 : base ≤ W.heap.size) {cs : Array Value} {te : TypeId}
  (hx : a.eval x = .slice (some ⟨W.heap.size, 0, none⟩) 1 1) (hl : cs.size = size) (h1 : ∀ u ∈ cs.toList, u.oneCell' = true) (hn : n ≤ 1073741824)
  (h : ∀ v' w', w'.ownsRow base e size v' (n + 1) (xs ++ cs.toList) → Later w0 w' → wpList P ops Q rest (a.put o.dst v') w') : wpList P ops Q (o :: rest) a (W.alloc (.cells cs te)) := by
 obtain ⟨i, i1, i2, i3, i4⟩ := info_parts hi
 have hb : (n + 1) * bytes ≤ 140737488355328 := by
  have : (n + 1) * bytes ≤ 1073741825 * 4096 := Nat.mul_le_mul (by omega) hby
  omega
 refine wpList_append_own _ hgd s x t ho base e i z size bytes ht i1 i2 i3 i4 hz hsz v n xs hs (hown.alloc _) ⟨W.heap.size, 0, none⟩ 1 1 cs.toList hx (by simpa using hl) (fun j u hu => ?_) h1 (by unfold maxLen; omega) hb
  (by simp; omega) (fun v' w' h2 h3 _ => h v' w' h2 ?_)
 ·have hadd : (⟨W.heap.size, 0, none⟩ : Addr).add j = ⟨W.heap.size, j, none⟩ := by unfold Addr.add; split <;> simp_all
  rw [hadd, World.cell?_alloc_new]
  simpa using hu
 ·have hL' : Later w0 (W.alloc (.cells cs te)) := inferInstance
  exact hL'.of_grown h3 fun g hg => Nat.le_trans hb0 (hown.lt g hg).1
end Go.Proofs.YtknhebakebmlcaaGreat
namespace Go.Proofs.YtknhebakebmlcaaGreat
open Go Go.RowKit
set_option linter.unusedVariables false
set_option maxRecDepth 100000
def okRules (t : Rules) : Bool := inB t.SignOn 0 900 && inB t.SignOff 0 900 && inB t.MaxDrive 0 900 && inB t.MinBreak 0 900 && inB t.PaidBreak 0 900 && inB t.MaxLength 0 900
theorem spec_l12Minutes (x : Int) (w : World) : Calls Tryz.prog 86 #[.int .i64 x] w (RetS (.bool (inB x 0 900)) w) := by
 go_enter Tryz.func86, Tryz.ntmps86
 go_wp2_with (go_at_call 87; refine (spec_l1In _ _ _ _).mono ?_; rintro e w' ⟨rfl, rfl⟩)
 go_ret
 exact ⟨rfl, rfl⟩
theorem spec_l12Rules (t : Rules) (w : World) : Calls Tryz.prog 62 #[.agg #[.int .i64 t.SignOn, .int .i64 t.SignOff, .int .i64 t.MaxDrive, .int .i64 t.MinBreak, .int .i64 t.PaidBreak, .int .i64 t.MaxLength]] w (Ret (.bool (okRules t)) w) := by
 go_enter Tryz.func62, Tryz.ntmps62
 go_wp2_with (go_at_call 86; refine (spec_l12Minutes _ _).mono ?_; rintro e w' ⟨rfl, rfl⟩)
 all_goals
  go_ret
  exact ⟨ret_bool (by simp [okRules, *]), inferInstance⟩
theorem laws_toRules (t : Rules) (w : World) : Calls Tryz.prog 12 #[.agg #[.int .i64 t.SignOn, .int .i64 t.SignOff, .int .i64 t.MaxDrive, .int .i64 t.MinBreak, .int .i64 t.PaidBreak, .int .i64 t.MaxLength]] w (Ret (.agg #[.int .i64 t.SignOn, .int .i64 t.SignOff, .int .i64 t.MaxDrive, .int .i64 t.MinBreak, .int .i64 t.PaidBreak, .int .i64 t.MaxLength]) w) := by
 go_enter Tryz.func12, Tryz.ntmps12
 go_wp2
 exact bodyPost_ret (by simp [results, Tryz.results12, go_sem]) rfl ⟨rfl, inferInstance⟩
theorem impl_IsValidRules (t : Rules) (w : World) : Calls Tryz.prog 70 #[.agg #[.int .i64 t.SignOn, .int .i64 t.SignOff, .int .i64 t.MaxDrive, .int .i64 t.MinBreak, .int .i64 t.PaidBreak, .int .i64 t.MaxLength]] w (Ret (.bool (okRules t)) w) := by
 have i0 : ∀ W, (Instr.index 129 (.agg #[.int .i64 t.SignOn, .int .i64 t.SignOff, .int .i64 t.MaxDrive, .int .i64 t.MinBreak, .int .i64 t.PaidBreak, .int .i64 t.MaxLength]) (.int .i64 0)).run Tryz.prog W = .ok (.int .i64 t.SignOn) W := fun _ => by kernel_rfl
 have i1 : ∀ W, (Instr.index 129 (.agg #[.int .i64 t.SignOn, .int .i64 t.SignOff, .int .i64 t.MaxDrive, .int .i64 t.MinBreak, .int .i64 t.PaidBreak, .int .i64 t.MaxLength]) (.int .i64 1)).run Tryz.prog W = .ok (.int .i64 t.SignOff) W := fun _ => by kernel_rfl
 have i2 : ∀ W, (Instr.index 129 (.agg #[.int .i64 t.SignOn, .int .i64 t.SignOff, .int .i64 t.MaxDrive, .int .i64 t.MinBreak, .int .i64 t.PaidBreak, .int .i64 t.MaxLength]) (.int .i64 2)).run Tryz.prog W = .ok (.int .i64 t.MaxDrive) W := fun _ => by kernel_rfl
 have i3 : ∀ W, (Instr.index 129 (.agg #[.int .i64 t.SignOn, .int .i64 t.SignOff, .int .i64 t.MaxDrive, .int .i64 t.MinBreak, .int .i64 t.PaidBreak, .int .i64 t.MaxLength]) (.int .i64 3)).run Tryz.prog W = .ok (.int .i64 t.MinBreak) W := fun _ => by kernel_rfl
 have i4 : ∀ W, (Instr.index 129 (.agg #[.int .i64 t.SignOn, .int .i64 t.SignOff, .int .i64 t.MaxDrive, .int .i64 t.MinBreak, .int .i64 t.PaidBreak, .int .i64 t.MaxLength]) (.int .i64 4)).run Tryz.prog W = .ok (.int .i64 t.PaidBreak) W := fun _ => by kernel_rfl
 have i5 : ∀ W, (Instr.index 129 (.agg #[.int .i64 t.SignOn, .int .i64 t.SignOff, .int .i64 t.MaxDrive, .int .i64 t.MinBreak, .int .i64 t.PaidBreak, .int .i64 t.MaxLength]) (.int .i64 5)).run Tryz.prog W = .ok (.int .i64 t.MaxLength) W := fun _ => by kernel_rfl
 go_enter Tryz.func70, Tryz.ntmps70
 go_wp2
 refine wp_loop_rounds 7 ?_
 repeat any_goals (rw [rounds_succ]; go_wp2_with (go_at_call 94; refine (impl_within _ _ _ _).mono ?_; rintro e w' ⟨rfl, rfl⟩))
 all_goals
  go_ret
  exact ⟨ret_bool (by simp_all [okRules]), inferInstance⟩
end Go.Proofs.YtknhebakebmlcaaGreat
namespace Go.Proofs.YtknhebakebmlcaaGreat
open Go Go.RowKit
set_option linter.unusedVariables false
set_option maxRecDepth 100000
end Go.Proofs.YtknhebakebmlcaaGreat
