/-
  ChangeTime: plain functions.
-/
import Derived.Test.YtaopadffabbjiaaWalkP
import Derived.Test.YtaopadffabbjiaaTimeB
namespace Go.Proofs.Ytaopadffabbjiaa
open Go Go.RowKit
set_option linter.unusedVariables false
set_option maxRecDepth 100000
def chgS (st : Int × Int) (s d v : Int) : Int × Int := if 0 ≤ v ∧ v ≤ d ∧ (st.1 < 0 ∨ d < st.1) then (d, s) else st
def chgG (t : Timetable) (l : List Walk) (a b : Trip) (p : Nat) (st : Int × Int) (q : Nat) : Int × Int :=
  chgS st ((lineAtT t a.Line).Stops.getD p 0) (timeAt t b q - timeAt t a p) (tg (fwT t.Network.Stops.length l) ((lineAtT t a.Line).Stops.getD p 0).toNat ((lineAtT t b.Line).Stops.getD q 0).toNat)
def chgI (t : Timetable) (l : List Walk) (a b : Trip) (p : Nat) (st : Int × Int) (n : Nat) : Int × Int := (List.range n).foldl (chgG t l a b p) st
def chgF (t : Timetable) (l : List Walk) (a b : Trip) (st : Int × Int) (p : Nat) : Int × Int := if p = 0 then st else chgI t l a b p st ((lineAtT t b.Line).Stops.length - 1)
def chgO (t : Timetable) (l : List Walk) (a b : Trip) (n : Nat) : Int × Int := (List.range n).foldl (chgF t l a b) (-1, 0)
section
variable {t : Timetable} {l : List Walk} {a b : Trip}
theorem chgI_0 {p : Nat} {st : Int × Int} : chgI t l a b p st 0 = st := rfl
theorem chgI_step {p n : Nat} {st : Int × Int} : chgI t l a b p st (n + 1) = chgG t l a b p (chgI t l a b p st n) n := by unfold chgI; rw [List.range_succ, List.foldl_append]; rfl
theorem chgO_step {n : Nat} (h : ¬ n = 0) : chgO t l a b (n + 1) = chgI t l a b n (chgO t l a b n) ((lineAtT t b.Line).Stops.length - 1) := by
  unfold chgO; rw [List.range_succ, List.foldl_append]; exact if_neg h
theorem chgO_1 : chgO t l a b 1 = (-1, 0) := rfl
theorem chgG_no {p q : Nat} {st : Int × Int} {s d v : Int} (h1 : (lineAtT t a.Line).Stops.getD p 0 = s) (h2 : timeAt t b q - timeAt t a p = d) (h3 : tg (fwT t.Network.Stops.length l) s.toNat ((lineAtT t b.Line).Stops.getD q 0).toNat = v) (h : ¬ (0 ≤ v ∧ v ≤ d ∧ (st.1 < 0 ∨ d < st.1))) : chgG t l a b p st q = st := by
  unfold chgG chgS; rw [h1, h2, h3, if_neg h]
theorem chgG_yes {p q : Nat} {st : Int × Int} {s d v : Int} (h1 : (lineAtT t a.Line).Stops.getD p 0 = s) (h2 : timeAt t b q - timeAt t a p = d) (h3 : tg (fwT t.Network.Stops.length l) s.toNat ((lineAtT t b.Line).Stops.getD q 0).toNat = v) (h : 0 ≤ v ∧ v ≤ d ∧ (st.1 < 0 ∨ d < st.1)) : chgG t l a b p st q = (d, s) := by
  unfold chgG chgS; rw [h1, h2, h3, if_pos h]
end
def chgOut (r : Int × Int) : Int × Int × Bool := if r.1 < 0 then (0, 0, false) else (r.1, r.2, true)
def chgRes (t : Timetable) (l : List Walk) (f g : Int) : Int × Int × Bool :=
  if okTimetable t = true ∧ okWalks t.Network.Stops.length l = true ∧ f ≠ g ∧ 0 ≤ findI t f ∧ 0 ≤ findI t g then
    chgOut (chgO t l (tripI t (findI t f)) (tripI t (findI t g)) (lineAtT t (tripI t (findI t f)).Line).Stops.length) else (0, 0, false)
theorem chg_no {t : Timetable} {l : List Walk} {f g : Int} (h : ¬ (okTimetable t = true ∧ okWalks t.Network.Stops.length l = true ∧ f ≠ g ∧ 0 ≤ findI t f ∧ 0 ≤ findI t g)) : chgRes t l f g = (0, 0, false) := if_neg h
theorem chg_yes {t : Timetable} {l : List Walk} {f g : Int} (h : okTimetable t = true ∧ okWalks t.Network.Stops.length l = true ∧ f ≠ g ∧ 0 ≤ findI t f ∧ 0 ≤ findI t g) : chgRes t l f g = chgOut (chgO t l (tripI t (findI t f)) (tripI t (findI t g)) (lineAtT t (tripI t (findI t f)).Line).Stops.length) := if_pos h
/-! ### Where a region's order branches: one proof for what is behind it -/
theorem ways1 {G : Prop} {wb : World} (R : World → Prop) (main : (∀ W, Later wb W → R W) → G) (key : ∀ W, Later wb W → R W) : G := main key
theorem ways2 {G : Prop} {wb : World} (P : World → Option Addr → Nat → Nat → Option Addr → Nat → Nat → Prop) (R : World → Option Addr → Nat → Nat → Option Addr → Nat → Nat → Prop) (main : (∀ W A n c B m d, Later wb W → P W A n c B m d → R W A n c B m d) → G) (key : ∀ W A n c B m d, Later wb W → P W A n c B m d → R W A n c B m d) : G := main key
theorem ways3 {G : Prop} {wb : World} (P : World → Nat → Nat → Prop) (R : World → Nat → Nat → Prop) (main : (∀ W x y, Later wb W → P W x y → R W x y) → G) (key : ∀ W x y, Later wb W → P W x y → R W x y) : G := main key
theorem Blk.threeC {w : World} {g : Nat} {t : TypeId} {a b c : Value} (h : Blk w g t #[a, b, c]) : (∀ W [Later w W], W.cell? ⟨g, 0, none⟩ = some a) ∧ (∀ W [Later w W], W.cell? ⟨g, 1, none⟩ = some b) ∧ (∀ W [Later w W], W.cell? ⟨g, 2, none⟩ = some c) :=
  ⟨fun W hW => (h.later hW).cell 0, fun W hW => (h.later hW).cell 1, fun W hW => (h.later hW).cell 2⟩
theorem Blk.putC {w : World} {g : Nat} {t : TypeId} {a b c a' b' c' : Value} (h : Blk w g t #[a, b, c]) : Blk (((w.setCell ⟨g, 0, none⟩ a').setCell ⟨g, 1, none⟩ b').setCell ⟨g, 2, none⟩ c') g t #[a', b', c'] :=
  ((h.set_ 0 a').set_ 1 b').set_ 2 c'
theorem Blk.byC {w : World} {g k : Nat} {t : TypeId} {cs : Array Value} {a' b' c' : Value} (h : Blk w g t cs) (hne : ¬ g = k) : Blk (((w.setCell ⟨k, 0, none⟩ a').setCell ⟨k, 1, none⟩ b').setCell ⟨k, 2, none⟩ c') g t cs :=
  ((h.far (p := ⟨k, 0, none⟩) hne a').far (p := ⟨k, 1, none⟩) hne b').far (p := ⟨k, 2, none⟩) hne c'
theorem tg_atC {k : Nat} {T : List (List Int)} (hs : Shape k T) {i j : Nat} (hi : i < k) (hj : j < k) : (T.getD i [])[j]? = some (tg T i j) := by
  unfold tg
  rw [List.getD_eq_getElem?_getD (l := T.getD i []), List.getElem?_eq_getElem (by rw [hs.row i hi]; exact hj)]; rfl
theorem stop_time {t : Timetable} (tf : TimeFacts t) {i : Nat} {x : Trip} (hx : t.Trips[i]? = some x) {p : Nat} (hp : p < (lineAtT t x.Line).Stops.length) : ∃ s : Nat, (lineAtT t x.Line).Stops[p]? = some (s : Int) ∧ s < t.Network.Stops.length ∧ (lineAtT t x.Line).Stops.getD p 0 = (s : Int) ∧ 0 ≤ timeAt t x p ∧ timeAt t x p ≤ 2099 := by
  have f := tf.trip i x hx
  have lf := lineAtT_facts tf.net f.line0 f.line1
  obtain ⟨v, hv⟩ : ∃ v, (lineAtT t x.Line).Stops[p]? = some v := ⟨_, List.getElem?_eq_getElem hp⟩
  have h2 := lf.mem p v hv
  obtain ⟨s, rfl⟩ := Int.eq_ofNat_of_zero_le h2.1
  have h3 := runSum_bd lf p
  have h4 := f.start
  refine ⟨s, hv, by omega, by rw [List.getD_eq_getElem?_getD, hv]; rfl, ?_, ?_⟩ <;> (unfold timeAt; omega)
end Go.Proofs.Ytaopadffabbjiaa
