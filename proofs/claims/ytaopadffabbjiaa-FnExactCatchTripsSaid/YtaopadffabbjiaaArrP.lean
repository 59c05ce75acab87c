/-
  Earliest arrivals: what at most some legs reach. Plain functions.
-/
import Derived.Test.YtaopadffabbjiaaTimeP
namespace Go.Proofs.Ytaopadffabbjiaa
open Go Go.RowKit
set_option linter.unusedVariables false
set_option maxRecDepth 100000
def never : Int := 1073741824
/-- The number at a stop. -/
def gi (l : List Int) (s : Int) : Int := l.getD s.toNat 0
theorem gi_at {l : List Int} {k : Nat} {v : Int} (h : l[k]? = some v) : gi l k = v := by simp [gi, List.getD, h]
theorem gi_self {l : List Int} {s v : Int} (h0 : 0 ≤ s) (h1 : s < l.length) : gi (l.set s.toNat v) s = v := by
  unfold gi
  rw [List.getD_eq_getElem?_getD, List.getElem?_set_self (by omega)]; rfl
theorem gi_ne {l : List Int} {s a v : Int} (h0 : 0 ≤ s) (h1 : 0 ≤ a) (h : a ≠ s) : gi (l.set a.toNat v) s = gi l s := by
  unfold gi
  rw [List.getD_eq_getElem?_getD, List.getD_eq_getElem?_getD, List.getElem?_set_ne (by omega)]
theorem gi_rep {n : Nat} {s v : Int} (h0 : 0 ≤ s) (h1 : s < n) : gi (List.replicate n v) s = v := by
  unfold gi
  rw [List.getD_eq_getElem?_getD, List.getElem?_replicate, if_pos (by omega)]; rfl
/-- The stops of a trip with their times. -/
def passT (t : Timetable) (x : Trip) : List (Int × Int) := (List.range (lineAtT t x.Line).Stops.length).map fun k => ((lineAtT t x.Line).Stops.getD k 0, timeAt t x k)
theorem passT_len (t : Timetable) (x : Trip) : (passT t x).length = (lineAtT t x.Line).Stops.length := by simp [passT]
theorem passT_at {t : Timetable} {x : Trip} {k : Nat} {s : Int} (h : (lineAtT t x.Line).Stops[k]? = some s) : (passT t x)[k]? = some (s, timeAt t x k) := by
  obtain ⟨hk, rfl⟩ := List.getElem?_eq_some_iff.1 h
  simp [passT, hk, List.getD]
theorem passT_of {t : Timetable} {x : Trip} {k : Nat} {s τ : Int} (h : (passT t x)[k]? = some (s, τ)) : (lineAtT t x.Line).Stops[k]? = some s ∧ τ = timeAt t x k := by
  have hk := (List.getElem?_eq_some_iff.1 h).1
  rw [passT_len] at hk
  have h2 := passT_at (t := t) (List.getElem?_eq_getElem hk)
  rw [h] at h2
  simp only [Option.some.injEq, Prod.mk.injEq] at h2
  obtain ⟨rfl, rfl⟩ := h2
  exact ⟨List.getElem?_eq_getElem hk, rfl⟩
/-- A pass through s at τ behind a place where one is on board. -/
def Hits (brd : Int → Int → Prop) : List (Int × Int) → Prop → Int → Int → Prop
  | [], _, _, _ => False
  | (a, ta) :: l, on, s, τ => (on ∧ a = s ∧ ta = τ) ∨ Hits brd l (on ∨ brd a ta) s τ
theorem hits_iff {brd : Int → Int → Prop} {l : List (Int × Int)} {on : Prop} {s τ : Int} :
    Hits brd l on s τ ↔ ∃ p : Nat, l[p]? = some (s, τ) ∧ (on ∨ ∃ (q : Nat) (a ta : Int), q < p ∧ l[q]? = some (a, ta) ∧ brd a ta) := by
  induction l generalizing on with
  | nil => simp [Hits]
  | cons y l ih =>
    obtain ⟨a, ta⟩ := y
    simp only [Hits, ih]
    constructor
    · rintro (⟨h, rfl, rfl⟩ | ⟨p, hp, h⟩)
      · exact ⟨0, rfl, .inl h⟩
      · refine ⟨p + 1, by simpa using hp, ?_⟩
        rcases h with (h | h) | ⟨q, b, tb, hq, hb, h⟩
        · exact .inl h
        · exact .inr ⟨0, a, ta, by omega, rfl, h⟩
        · exact .inr ⟨q + 1, b, tb, by omega, by simpa using hb, h⟩
    · rintro ⟨p, hp, h⟩
      cases p with
      | zero =>
        simp at hp
        rcases h with h | ⟨q, b, tb, hq, _⟩
        · exact .inl ⟨h, hp.1, hp.2⟩
        · omega
      | succ p =>
        refine .inr ⟨p, by simpa using hp, ?_⟩
        rcases h with h | ⟨q, b, tb, hq, hb, h⟩
        · exact .inl (.inl h)
        · cases q with
          | zero => simp at hb; obtain ⟨rfl, rfl⟩ := hb; exact .inl (.inr h)
          | succ q => exact .inr ⟨q, b, tb, by omega, by simpa using hb, h⟩
structure Glb (o r : Int) (S : Int → Prop) : Prop where
  le : r ≤ o
  low : ∀ τ, S τ → r ≤ τ
  att : r = o ∨ S r
theorem Glb.trans {o r1 r2 : Int} {S1 S2 : Int → Prop} (h1 : Glb o r1 S1) (h2 : Glb r1 r2 S2) : Glb o r2 (fun τ => S1 τ ∨ S2 τ) := by
  refine ⟨Int.le_trans h2.le h1.le, fun τ h => ?_, ?_⟩
  · rcases h with h | h
    · exact Int.le_trans h2.le (h1.low τ h)
    · exact h2.low τ h
  · rcases h2.att with h | h
    · rcases h1.att with h' | h'
      · exact .inl (h.trans h')
      · exact .inr (.inl (by rw [h]; exact h'))
    · exact .inr (.inr h)
theorem Glb.congr {o r : Int} {S S' : Int → Prop} (h : Glb o r S) (e : ∀ τ, S τ ↔ S' τ) : Glb o r S' :=
  ⟨h.le, fun τ k => h.low τ ((e τ).2 k), h.att.imp id (e r).1⟩
/-- The lesser of two. -/
def lo (a b : Int) : Int := if b < a then b else a
/-! ### The program's way -/
def rideGo (ready : List Int) : List (Int × Int) → Bool → List Int → List Int
  | [], _, out => out
  | (a, ta) :: l, on, out => rideGo ready l (on || decide (gi ready a ≤ ta)) (if on = true then out.set a.toNat (lo (gi out a) ta) else out)
theorem rideGo_len (ready : List Int) (l : List (Int × Int)) (on : Bool) (out : List Int) : (rideGo ready l on out).length = out.length := by
  induction l generalizing on out with
  | nil => rfl
  | cons y l ih =>
    obtain ⟨a, ta⟩ := y
    simp only [rideGo, ih]
    split
    · simp
    · rfl
theorem rideGo_glb {ready : List Int} {n : Nat} {l : List (Int × Int)} {on : Bool} {out : List Int} (hl : ∀ p, p ∈ l → 0 ≤ p.1 ∧ p.1 < n) (hn : out.length = n) {s : Int} (h0 : 0 ≤ s) (h1 : s < n) :
    Glb (gi out s) (gi (rideGo ready l on out) s) (Hits (fun a ta => gi ready a ≤ ta) l (on = true) s) := by
  induction l generalizing on out with
  | nil => exact ⟨Int.le_refl _, fun τ h => h.elim, .inl rfl⟩
  | cons y l ih =>
    obtain ⟨a, ta⟩ := y
    have ha := hl (a, ta) (by simp)
    have g := ih (on := on || decide (gi ready a ≤ ta)) (out := if on = true then out.set a.toNat (lo (gi out a) ta) else out) (fun p hp => hl p (by simp [hp])) (by split <;> simp [hn])
    have hp : ((on || decide (gi ready a ≤ ta)) = true) = (on = true ∨ gi ready a ≤ ta) := by simp
    rw [hp] at g
    simp only [rideGo, Hits]
    by_cases c : on = true ∧ a = s
    · obtain ⟨c1, rfl⟩ := c
      have e : gi (if on = true then out.set a.toNat (lo (gi out a) ta) else out) a = lo (gi out a) ta := by rw [if_pos c1, gi_self ha.1 (by rw [hn]; exact ha.2)]
      have k : Glb (gi out a) (lo (gi out a) ta) (fun τ => on = true ∧ a = a ∧ ta = τ) := by
        refine ⟨by unfold lo; split <;> omega, fun τ h => ?_, ?_⟩
        · obtain ⟨_, _, rfl⟩ := h
          unfold lo; split <;> omega
        · unfold lo
          split
          · exact .inr ⟨c1, rfl, rfl⟩
          · exact .inl rfl
      rw [e] at g
      exact k.trans g
    · have e : gi (if on = true then out.set a.toNat (lo (gi out a) ta) else out) s = gi out s := by
        split
        · rename_i c1
          rw [gi_ne h0 ha.1 fun e => c ⟨c1, e⟩]
        · rfl
      rw [e] at g
      refine g.congr fun τ => ⟨.inr, ?_⟩
      rintro (⟨h1, h2, _⟩ | h)
      · exact absurd ⟨h1, h2⟩ c
      · exact h
def rideAll (t : Timetable) (ready : List Int) : List Trip → List Int → List Int
  | [], out => out
  | x :: l, out => rideAll t ready l (rideGo ready (passT t x) false out)
theorem rideAll_len (t : Timetable) (ready : List Int) (l : List Trip) (out : List Int) : (rideAll t ready l out).length = out.length := by
  induction l generalizing out with
  | nil => rfl
  | cons x l ih => simp only [rideAll, ih, rideGo_len]
def StopsIn (t : Timetable) (n : Nat) : Prop := ∀ x, x ∈ t.Trips → ∀ p, p ∈ passT t x → 0 ≤ p.1 ∧ p.1 < n ∧ 0 ≤ p.2 ∧ p.2 ≤ 2099
theorem stopsIn {t : Timetable} (h : TimeFacts t) : StopsIn t t.Network.Stops.length := by
  intro x hx p hp
  obtain ⟨i, hi, rfl⟩ := List.getElem_of_mem hx
  have f := h.trip i _ (List.getElem?_eq_getElem hi)
  have lf := lineAtT_facts h.net f.line0 f.line1
  obtain ⟨k, hk⟩ := List.getElem?_of_mem hp
  obtain ⟨s, τ⟩ := p
  obtain ⟨h1, rfl⟩ := passT_of hk
  have h2 := lf.mem k s h1
  have h3 := runSum_bd lf k
  have h4 := f.start
  refine ⟨h2.1, h2.2, ?_⟩
  simp only [timeAt]
  omega
theorem rideAll_glb {t : Timetable} {ready : List Int} {n : Nat} {l : List Trip} {out : List Int} (hl : ∀ x, x ∈ l → ∀ p, p ∈ passT t x → 0 ≤ p.1 ∧ p.1 < n) (hn : out.length = n) {s : Int} (h0 : 0 ≤ s) (h1 : s < n) :
    Glb (gi out s) (gi (rideAll t ready l out) s) (fun τ => ∃ x, x ∈ l ∧ Hits (fun a ta => gi ready a ≤ ta) (passT t x) False s τ) := by
  induction l generalizing out with
  | nil => exact ⟨Int.le_refl _, fun τ ⟨x, hx, _⟩ => by simp at hx, .inl rfl⟩
  | cons y l ih =>
    simp only [rideAll]
    have g1 := rideGo_glb (ready := ready) (on := false) (hl y (by simp)) hn h0 h1
    rw [show (false = true) = False by simp] at g1
    have g2 := ih (out := rideGo ready (passT t y) false out) (fun x hx => hl x (by simp [hx])) (by rw [rideGo_len]; exact hn)
    refine (g1.trans g2).congr fun τ => ⟨?_, ?_⟩
    · rintro (h | ⟨x, hx, h⟩)
      · exact ⟨y, by simp, h⟩
      · exact ⟨x, by simp [hx], h⟩
    · rintro ⟨x, hx, h⟩
      rcases List.mem_cons.1 hx with rfl | hx
      · exact .inl h
      · exact .inr ⟨x, hx, h⟩
def rideL (t : Timetable) (ready : List Int) : List Int := rideAll t ready t.Trips (List.replicate ready.length never)
theorem rideL_len (t : Timetable) (ready : List Int) : (rideL t ready).length = ready.length := by simp [rideL, rideAll_len]
def bestL (best next : List Int) : List Int := List.zipWith (fun b a => if a < b then a else b) best next
def readyN (change : Int) (best next : List Int) : List Int := List.zipWith (fun b a => if a < b then a + change else never) best next
def arrGo (t : Timetable) (change : Int) : Nat → List Int → List Int → List Int
  | 0, best, _ => best
  | m + 1, best, ready => arrGo t change m (bestL best (rideL t ready)) (readyN change best (rideL t ready))
def readyL (n : Nat) (stop at_ : Int) : List Int := (List.replicate n never).set stop.toNat at_
def arrL (t : Timetable) (change : Int) (ready : List Int) (legs : Nat) : List Int := arrGo t change legs (List.replicate ready.length never) ready
/-! ### What that means -/
/-- A trip passes s at τ behind a place where one can board. -/
def Hop (t : Timetable) (brd : Int → Int → Prop) (s τ : Int) : Prop := ∃ x, x ∈ t.Trips ∧ Hits brd (passT t x) False s τ
theorem hop_iff {t : Timetable} {brd : Int → Int → Prop} {s τ : Int} :
    Hop t brd s τ ↔ ∃ x, x ∈ t.Trips ∧ ∃ (p q : Nat) (a ta : Int), q < p ∧ (passT t x)[q]? = some (a, ta) ∧ brd a ta ∧ (passT t x)[p]? = some (s, τ) := by
  unfold Hop
  simp only [hits_iff, false_or]
  constructor
  · rintro ⟨x, hx, p, hp, q, a, ta, hq, ha, hb⟩
    exact ⟨x, hx, p, q, a, ta, hq, ha, hb, hp⟩
  · rintro ⟨x, hx, p, q, a, ta, hq, ha, hb, hp⟩
    exact ⟨x, hx, p, hp, q, a, ta, hq, ha, hb⟩
/-- One can board at s, behind k legs, what leaves at tq. -/
def Brd (t : Timetable) (change from_ at_ : Int) : Nat → Int → Int → Prop
  | 0, s, tq => s = from_ ∧ at_ ≤ tq
  | k + 1, s, tq => ∃ τ, Hop t (Brd t change from_ at_ k) s τ ∧ τ + change ≤ tq
def Within (t : Timetable) (change from_ at_ : Int) (m : Nat) (s τ : Int) : Prop := ∃ k, k < m ∧ Hop t (Brd t change from_ at_ k) s τ
def IsMin (v : Int) (S : Int → Prop) : Prop := (v = never ∧ ∀ τ, ¬ S τ) ∨ (S v ∧ ∀ τ, S τ → v ≤ τ)
theorem IsMin.congr {v : Int} {S S' : Int → Prop} (h : IsMin v S) (e : ∀ τ, S τ ↔ S' τ) : IsMin v S' :=
  h.imp (fun ⟨a, b⟩ => ⟨a, fun τ k => b τ ((e τ).2 k)⟩) fun ⟨a, b⟩ => ⟨(e v).1 a, fun τ k => b τ ((e τ).2 k)⟩
theorem IsMin.uniq {v u : Int} {S : Int → Prop} (h : IsMin v S) (k : IsMin u S) : v = u := by
  rcases h with ⟨rfl, h⟩ | ⟨h, h'⟩
  · rcases k with ⟨rfl, _⟩ | ⟨k, _⟩
    · rfl
    · exact absurd k (h _)
  · rcases k with ⟨rfl, k⟩ | ⟨k, k'⟩
    · exact absurd h (k _)
    · exact Int.le_antisymm (h' _ k) (k' _ h)
theorem hop_bd {t : Timetable} {n : Nat} (hs : StopsIn t n) {brd : Int → Int → Prop} {s τ : Int} (h : Hop t brd s τ) : 0 ≤ s ∧ s < n ∧ 0 ≤ τ ∧ τ ≤ 2099 := by
  obtain ⟨x, hx, p, q, a, ta, hq, ha, hb, hp⟩ := hop_iff.1 h
  exact hs x hx _ (List.mem_of_getElem? hp)
def Cov (t : Timetable) (best : List Int) (a ta : Int) : Prop :=
  ∀ x, x ∈ t.Trips → ∀ (p q : Nat) (s τ : Int), q < p → (passT t x)[q]? = some (a, ta) → (passT t x)[p]? = some (s, τ) → gi best s ≤ τ
structure ArrInv (t : Timetable) (change from_ at_ : Int) (n m : Nat) (best ready : List Int) : Prop where
  lenb : best.length = n
  lenr : ready.length = n
  min : ∀ s : Int, 0 ≤ s → s < n → IsMin (gi best s) (Within t change from_ at_ m s)
  sound : ∀ s tq : Int, 0 ≤ s → s < n → tq < never → gi ready s ≤ tq → ∃ j, j ≤ m ∧ Brd t change from_ at_ j s tq
  full : ∀ s tq : Int, 0 ≤ s → s < n → Brd t change from_ at_ m s tq → gi ready s ≤ tq ∨ Cov t best s tq
  cov : ∀ (j : Nat) (s tq : Int), j < m → Brd t change from_ at_ j s tq → Cov t best s tq
theorem ArrInv.start (t : Timetable) (change : Int) {from_ at_ : Int} {n : Nat} (h0 : 0 ≤ from_) (h1 : from_ < n) : ArrInv t change from_ at_ n 0 (List.replicate n never) (readyL n from_ at_) := by
  have gf : gi (readyL n from_ at_) from_ = at_ := gi_self h0 (by simpa using h1)
  refine ⟨by simp, by simp [readyL], fun s s0 s1 => .inl ⟨gi_rep s0 s1, fun τ ⟨k, hk, _⟩ => by omega⟩, fun s tq s0 s1 ht hg => ?_, fun s tq s0 s1 hb => ?_, fun j s tq hj => by omega⟩
  · by_cases e : s = from_
    · subst e
      rw [gf] at hg
      exact ⟨0, Nat.le_refl _, rfl, hg⟩
    · unfold readyL at hg
      rw [gi_ne s0 h0 (Ne.symm e), gi_rep s0 s1] at hg
      omega
  · obtain ⟨rfl, hb⟩ := hb
    exact .inl (by rw [gf]; exact hb)
theorem gi_zip {f : Int → Int → Int} {a b : List Int} {n : Nat} (ha : a.length = n) (hb : b.length = n) {s : Int} (h0 : 0 ≤ s) (h1 : s < n) : gi (List.zipWith f a b) s = f (gi a s) (gi b s) := by
  unfold gi
  have h2 : s.toNat < a.length := by omega
  have h3 : s.toNat < b.length := by omega
  simp [List.getD, List.getElem?_zipWith, List.getElem?_eq_getElem h2, List.getElem?_eq_getElem h3]
theorem rideL_glb {t : Timetable} {n : Nat} (hs : StopsIn t n) {ready : List Int} (hr : ready.length = n) {s : Int} (h0 : 0 ≤ s) (h1 : s < n) :
    Glb never (gi (rideL t ready) s) (Hop t (fun a ta => gi ready a ≤ ta) s) := by
  have := rideAll_glb (t := t) (ready := ready) (n := n) (l := t.Trips) (out := List.replicate ready.length never) (fun x hx p hp => ⟨(hs x hx p hp).1, (hs x hx p hp).2.1⟩) (by simp [hr]) h0 h1
  rw [hr, gi_rep h0 h1] at this
  unfold rideL
  rw [hr]
  exact this
theorem ArrInv.step {t : Timetable} {change from_ at_ : Int} {n m : Nat} {best ready : List Int} (hs : StopsIn t n) (hc : 0 ≤ change) (h : ArrInv t change from_ at_ n m best ready) :
    ArrInv t change from_ at_ n (m + 1) (bestL best (rideL t ready)) (readyN change best (rideL t ready)) := by
  have hN := fun (s : Int) (s0 : (0 : Int) ≤ s) (s1 : s < n) => rideL_glb hs h.lenr (s := s) s0 s1
  have hln : (rideL t ready).length = n := by rw [rideL_len]; exact h.lenr
  have gb : ∀ s : Int, 0 ≤ s → s < n → gi (bestL best (rideL t ready)) s = if gi (rideL t ready) s < gi best s then gi (rideL t ready) s else gi best s := fun s s0 s1 => gi_zip h.lenb hln s0 s1
  have gr : ∀ s : Int, 0 ≤ s → s < n → gi (readyN change best (rideL t ready)) s = if gi (rideL t ready) s < gi best s then gi (rideL t ready) s + change else never := fun s s0 s1 => gi_zip h.lenb hln s0 s1
  have hbn : ∀ s : Int, 0 ≤ s → s < n → gi best s ≤ never := fun s s0 s1 => by
    rcases h.min s s0 s1 with ⟨e, _⟩ | ⟨⟨k, _, e⟩, _⟩
    · omega
    · have := hop_bd hs e; unfold never; omega
  have le1 : ∀ s : Int, 0 ≤ s → s < n → gi (bestL best (rideL t ready)) s ≤ gi best s := fun s s0 s1 => by rw [gb s s0 s1]; split <;> omega
  have le2 : ∀ s : Int, 0 ≤ s → s < n → gi (bestL best (rideL t ready)) s ≤ gi (rideL t ready) s := fun s s0 s1 => by rw [gb s s0 s1]; split <;> omega
  have covL : ∀ a ta, Cov t best a ta → Cov t (bestL best (rideL t ready)) a ta := fun a ta hc x hx p q s τ hq ha hp => by
    have := hs x hx _ (List.mem_of_getElem? hp)
    exact Int.le_trans (le1 s this.1 this.2.1) (hc x hx p q s τ hq ha hp)
  have hopR : ∀ s τ, Hop t (Brd t change from_ at_ m) s τ → gi (rideL t ready) s ≤ τ ∨ gi best s ≤ τ := fun s τ hh => by
    have b := hop_bd hs hh
    obtain ⟨x, hx, p, q, a, ta, hq, ha, hb, hp⟩ := hop_iff.1 hh
    have ba := hs x hx _ (List.mem_of_getElem? ha)
    rcases h.full a ta ba.1 ba.2.1 hb with hr | hr
    · exact .inl ((hN s b.1 b.2.1).low τ (hop_iff.2 ⟨x, hx, p, q, a, ta, hq, ha, hr, hp⟩))
    · exact .inr (hr x hx p q s τ hq ha hp)
  have low : ∀ s τ k, k < m + 1 → Hop t (Brd t change from_ at_ k) s τ → gi (bestL best (rideL t ready)) s ≤ τ := fun s τ k hk hh => by
    have b := hop_bd hs hh
    by_cases e : k = m
    · subst e
      rcases hopR s τ hh with hr | hr
      · exact Int.le_trans (le2 s b.1 b.2.1) hr
      · exact Int.le_trans (le1 s b.1 b.2.1) hr
    · refine Int.le_trans (le1 s b.1 b.2.1) ?_
      rcases h.min s b.1 b.2.1 with ⟨_, e2⟩ | ⟨_, e2⟩
      · exact absurd ⟨k, by omega, hh⟩ (e2 τ)
      · exact e2 τ ⟨k, by omega, hh⟩
  have snd : ∀ s : Int, 0 ≤ s → s < n → gi (rideL t ready) s < gi best s → ∃ j, j ≤ m ∧ Hop t (Brd t change from_ at_ j) s (gi (rideL t ready) s) := fun s s0 s1 hlt => by
    rcases (hN s s0 s1).att with e | e
    · have := hbn s s0 s1; omega
    · obtain ⟨x, hx, p, q, a, ta, hq, ha, hb, hp⟩ := hop_iff.1 e
      have ba := hs x hx _ (List.mem_of_getElem? ha)
      obtain ⟨j, hj, hB⟩ := h.sound a ta ba.1 ba.2.1 (by have := ba.2.2.2; unfold never; simp only at this; omega) hb
      exact ⟨j, hj, hop_iff.2 ⟨x, hx, p, q, a, ta, hq, ha, hB, hp⟩⟩
  have cov' : ∀ j s tq, j < m + 1 → Brd t change from_ at_ j s tq → Cov t (bestL best (rideL t ready)) s tq := fun j s tq hj hB => by
    by_cases e : j = m
    · subst e
      intro x hx p q s' τ hq ha hp
      exact low s' τ j (by omega) (hop_iff.2 ⟨x, hx, p, q, s, tq, hq, ha, hB, hp⟩)
    · exact covL _ _ (h.cov j s tq (by omega) hB)
  refine ⟨by simp [bestL, h.lenb, hln], by simp [readyN, h.lenb, hln], fun s s0 s1 => ?_, fun s tq s0 s1 ht hg => ?_, fun s tq s0 s1 hB => ?_, cov'⟩
  · by_cases c : gi (rideL t ready) s < gi best s
    · obtain ⟨j, hj, hH⟩ := snd s s0 s1 c
      have e : gi (bestL best (rideL t ready)) s = gi (rideL t ready) s := by rw [gb s s0 s1, if_pos c]
      refine .inr ⟨?_, fun τ ⟨k, hk, hh⟩ => low s τ k hk hh⟩
      rw [e]
      exact ⟨j, by omega, hH⟩
    · have e : gi (bestL best (rideL t ready)) s = gi best s := by rw [gb s s0 s1, if_neg c]
      have l2 := fun τ k hk hh => low s τ k hk hh
      rw [e] at l2 ⊢
      rcases h.min s s0 s1 with ⟨e1, e2⟩ | ⟨⟨k, hk, e1⟩, e2⟩
      · refine .inl ⟨e1, fun τ ⟨k, hk, hh⟩ => ?_⟩
        have := l2 τ k hk hh
        have := hop_bd hs hh
        unfold never at e1
        omega
      · exact .inr ⟨⟨k, by omega, e1⟩, fun τ ⟨k, hk, hh⟩ => l2 τ k hk hh⟩
  · rw [gr s s0 s1] at hg
    by_cases c : gi (rideL t ready) s < gi best s
    · rw [if_pos c] at hg
      obtain ⟨j, hj, hH⟩ := snd s s0 s1 c
      exact ⟨j + 1, by omega, _, hH, hg⟩
    · rw [if_neg c] at hg
      omega
  · obtain ⟨τ, hH, hτ⟩ := hB
    by_cases c : gi (rideL t ready) s < gi best s
    · rw [gr s s0 s1, if_pos c]
      have := hopR s τ hH
      exact .inl (by omega)
    · have hle : gi best s ≤ τ := by have := hopR s τ hH; omega
      have bb := hop_bd hs hH
      rcases h.min s s0 s1 with ⟨e1, e2⟩ | ⟨⟨k, hk, e1⟩, e2⟩
      · unfold never at e1; omega
      · exact .inr (cov' (k + 1) s tq (by omega) ⟨_, e1, by omega⟩)
theorem ArrInv.go {t : Timetable} {change from_ at_ : Int} {n : Nat} (hs : StopsIn t n) (hc : 0 ≤ change) (k : Nat) : ∀ {m : Nat} {best ready : List Int}, ArrInv t change from_ at_ n m best ready →
    (arrGo t change k best ready).length = n ∧ ∀ s : Int, 0 ≤ s → s < n → IsMin (gi (arrGo t change k best ready) s) (Within t change from_ at_ (m + k) s) := by
  induction k with
  | zero => intro m best ready h; exact ⟨h.lenb, h.min⟩
  | succ k ih =>
    intro m best ready h
    have := ih (h.step hs hc)
    rw [show m + (k + 1) = m + 1 + k by omega]
    exact this
theorem arrL_min {t : Timetable} {change from_ at_ : Int} {n : Nat} (hs : StopsIn t n) (hc : 0 ≤ change) (h0 : 0 ≤ from_) (h1 : from_ < n) (m : Nat) :
    (arrL t change (readyL n from_ at_) m).length = n ∧ ∀ s : Int, 0 ≤ s → s < n → IsMin (gi (arrL t change (readyL n from_ at_) m) s) (Within t change from_ at_ m s) := by
  have := ArrInv.go hs hc m (ArrInv.start t change (at_ := at_) h0 h1)
  unfold arrL
  rw [show (readyL n from_ at_).length = n by simp [readyL]]
  simpa using this
end Go.Proofs.Ytaopadffabbjiaa
