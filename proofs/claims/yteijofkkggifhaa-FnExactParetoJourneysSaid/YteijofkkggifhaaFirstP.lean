/-
  The first journey: the program's way from leg to leg, and the reference's search, agree. Plain functions.
-/
import Derived.Test.YteijofkkggifhaaArrQ
import Derived.Test.YteijofkkggifhaaLegP
namespace Go.Proofs.Yteijofkkggifhaa
open Go Go.RowKit
set_option linter.unusedVariables false
set_option maxRecDepth 100000
/-! ### The program's way -/
def lastOk (t : Timetable) (change to by_ : Int) (k : Nat) (s a : Int) : Bool :=
  if k = 1 then decide (s = to) && decide (a ≤ by_) else decide (gi (arrL t change (readyL t.Network.Stops.length s (a + change)) (k - 1)) to ≤ by_)
def tryStop (t : Timetable) (change stop to ready by_ : Int) (k : Nat) (x : Trip) (s : Nat) : Option Leg :=
  if (fillT t x stop s).2 = true ∧ ready ≤ (fillT t x stop s).1.Depart ∧ lastOk t change to by_ k s (fillT t x stop s).1.Arrive = true then some (fillT t x stop s).1 else none
def tryTrip (t : Timetable) (change stop to ready by_ : Int) (k : Nat) (x : Trip) : Option Leg := (List.range t.Network.Stops.length).findSome? (tryStop t change stop to ready by_ k x)
def firstL (t : Timetable) (change stop to ready by_ : Int) (k : Nat) : Leg := (t.Trips.findSome? (tryTrip t change stop to ready by_ k)).getD noLeg
def journeyGo (t : Timetable) (change to by_ : Int) : Nat → Int → Int → List Leg
  | 0, _, _ => []
  | k + 1, stop, ready => firstL t change stop to ready by_ (k + 1) :: journeyGo t change to by_ k (firstL t change stop to ready by_ (k + 1)).To ((firstL t change stop to ready by_ (k + 1)).Arrive + change)
theorem journeyGo_len (t : Timetable) (change to by_ : Int) (k : Nat) (stop ready : Int) : (journeyGo t change to by_ k stop ready).length = k := by
  induction k generalizing stop ready with
  | zero => rfl
  | succ k ih => simp [journeyGo, ih]
/-! ### The reference's way -/
def placeT (t : Timetable) (x : Trip) (s : Int) : Int := idx (intIs s) (lineAtT t x.Line).Stops
def legOf (t : Timetable) (x : Trip) (a b : Int) : Leg := ⟨x.Id, a, b, timeAt t x (placeT t x a).toNat, timeAt t x (placeT t x b).toNat⟩
def extStop (go : List Leg → Int → Int → List Leg) (t : Timetable) (change to arrive : Int) (k : Nat) (legs : List Leg) (stop : Int) (x : Trip) (s : Nat) : Option (List Leg) :=
  if placeT t x s ≤ placeT t x stop ∨ arrive < (legOf t x stop s).Arrive then none
  else if k = 0 then (if (s : Int) = to ∧ (legOf t x stop s).Arrive = arrive then some (legs ++ [legOf t x stop s]) else none)
  else if go (legs ++ [legOf t x stop s]) s ((legOf t x stop s).Arrive + change) = [] then none else some (go (legs ++ [legOf t x stop s]) s ((legOf t x stop s).Arrive + change))
def extTrip (go : List Leg → Int → Int → List Leg) (t : Timetable) (change to arrive : Int) (k : Nat) (legs : List Leg) (stop at_ : Int) (x : Trip) : Option (List Leg) :=
  if legs.any (tripIs x.Id) = true ∨ placeT t x stop < 0 ∨ timeAt t x (placeT t x stop).toNat < at_ then none
  else (List.range t.Network.Stops.length).findSome? (extStop go t change to arrive k legs stop x)
def ext (t : Timetable) (change to arrive : Int) : Nat → List Leg → Int → Int → List Leg
  | 0, _, _, _ => []
  | k + 1, legs, stop, at_ => (t.Trips.findSome? (extTrip (ext t change to arrive k) t change to arrive k legs stop at_)).getD []
/-! ### Both agree where the number of legs is least -/
section
variable {α β γ : Type}
theorem findSome_congr {f g : α → Option β} {l : List α} (h : ∀ x, x ∈ l → f x = g x) : l.findSome? f = l.findSome? g := by
  induction l with
  | nil => rfl
  | cons y l ih => simp only [List.findSome?_cons, h y (by simp), ih fun x hx => h x (by simp [hx])]
theorem findSome_opt (f : α → Option β) (g : β → γ) (l : List α) : l.findSome? (fun x => (f x).map g) = (l.findSome? f).map g := by
  induction l with
  | nil => rfl
  | cons y l ih =>
    simp only [List.findSome?_cons, ih]
    cases f y <;> rfl
theorem findSome_nil {f : α → Option β} {l : List α} (h : ∀ x, x ∈ l → f x = none) : l.findSome? f = none := by
  induction l with
  | nil => rfl
  | cons y l ih => simp only [List.findSome?_cons, h y (by simp), ih fun x hx => h x (by simp [hx])]
theorem findSome_mem {f : α → Option β} {l : List α} {b : β} (h : l.findSome? f = some b) : ∃ x, x ∈ l ∧ f x = some b := by
  induction l with
  | nil => cases h
  | cons y l ih =>
    simp only [List.findSome?_cons] at h
    cases e : f y with
    | none => rw [e] at h; obtain ⟨x, hx, h2⟩ := ih h; exact ⟨x, by simp [hx], h2⟩
    | some c => rw [e] at h; simp only [Option.some.injEq] at h; subst h; exact ⟨y, by simp, e⟩
theorem findSome_no {f : α → Option β} {l : List α} (h : l.findSome? f = none) : ∀ x, x ∈ l → f x = none := by
  induction l with
  | nil => intro x hx; simp at hx
  | cons y l ih =>
    simp only [List.findSome?_cons] at h
    cases e : f y with
    | none =>
      rw [e] at h
      intro x hx
      rcases List.mem_cons.1 hx with rfl | hx
      · exact e
      · exact ih h x hx
    | some c => rw [e] at h; cases h
end
theorem hop_mono {t : Timetable} {b1 b2 : Int → Int → Prop} (h : ∀ a ta, b1 a ta → b2 a ta) {s τ : Int} (hh : Hop t b1 s τ) : Hop t b2 s τ := by
  obtain ⟨x, hx, p, q, a, ta, hq, ha, hB, hp⟩ := hop_iff.1 hh
  exact hop_iff.2 ⟨x, hx, p, q, a, ta, hq, ha, h _ _ hB, hp⟩
theorem brd_comp {t : Timetable} {change from_ at_ stop r : Int} {j : Nat} (h : ∀ tq, r ≤ tq → Brd t change from_ at_ j stop tq) (i : Nat) : ∀ s tq : Int, Brd t change stop r i s tq → Brd t change from_ at_ (j + i) s tq := by
  induction i with
  | zero => rintro s tq ⟨rfl, hb⟩; exact h tq hb
  | succ i ih => rintro s tq ⟨τ, hH, hτ⟩; exact ⟨τ, hop_mono ih hH, hτ⟩
theorem within_comp {t : Timetable} {change from_ at_ stop r : Int} {j : Nat} (h : ∀ tq, r ≤ tq → Brd t change from_ at_ j stop tq) {k : Nat} {s τ : Int} (hw : Within t change stop r k s τ) : Within t change from_ at_ (j + k) s τ := by
  obtain ⟨i, hi, hH⟩ := hw
  exact ⟨j + i, by omega, hop_mono (brd_comp h i) hH⟩
/-- The first hop of a way. -/
theorem brd_split {t : Timetable} {change stop r : Int} (i : Nat) : ∀ s tq : Int, Brd t change stop r (i + 1) s tq → ∃ x, x ∈ t.Trips ∧ ∃ (p q : Nat) (ta s1 τ1 : Int), q < p ∧ (passT t x)[q]? = some (stop, ta) ∧ r ≤ ta ∧ (passT t x)[p]? = some (s1, τ1) ∧ Brd t change s1 (τ1 + change) i s tq := by
  induction i with
  | zero =>
    rintro s tq ⟨τ, hH, hτ⟩
    obtain ⟨x, hx, p, q, a, ta, hq, ha, ⟨rfl, hB⟩, hp⟩ := hop_iff.1 hH
    exact ⟨x, hx, p, q, ta, s, τ, hq, ha, hB, hp, rfl, hτ⟩
  | succ i ih =>
    rintro s tq ⟨τ, hH, hτ⟩
    obtain ⟨x, hx, p, q, a, ta, hq, ha, hB, hp⟩ := hop_iff.1 hH
    obtain ⟨x1, hx1, p1, q1, ta1, s1, τ1, h1, h2, h3, h4, h5⟩ := ih a ta hB
    exact ⟨x1, hx1, p1, q1, ta1, s1, τ1, h1, h2, h3, h4, τ, hop_iff.2 ⟨x, hx, p, q, a, ta, hq, ha, h5, hp⟩, hτ⟩
/-- What a filled leg says. -/
theorem fill_of {t : Timetable} {x : Trip} {a b : Int} (h : (fillT t x a b).2 = true) : (fillT t x a b).1 = legOf t x a b ∧ 0 ≤ placeT t x a ∧ placeT t x a < placeT t x b := by
  unfold fillT at h ⊢
  split at h
  · cases h
  · rename_i c
    rw [if_neg c]
    refine ⟨rfl, ?_, ?_⟩ <;> unfold placeT <;> omega
theorem fill_yes {t : Timetable} {x : Trip} {a b : Int} (h0 : 0 ≤ placeT t x a) (h1 : placeT t x a < placeT t x b) : fillT t x a b = (legOf t x a b, true) := by
  unfold placeT at h0 h1
  unfold fillT
  rw [if_neg (by omega)]; rfl
theorem place_at {t : Timetable} {x : Trip} {s : Int} (h : 0 ≤ placeT t x s) : (passT t x)[(placeT t x s).toNat]? = some (s, timeAt t x (placeT t x s).toNat) := by
  obtain ⟨j, y, h1, h2, h3⟩ := idx_at h
  have e : (placeT t x s).toNat = j := by unfold placeT; omega
  have : y = s := by simpa [intIs] using h2
  subst this
  rw [e]
  exact passT_at h1
theorem place_of {t : Timetable} (h : TimeFacts t) {x : Trip} (hx : x ∈ t.Trips) {p : Nat} {s τ : Int} (hp : (passT t x)[p]? = some (s, τ)) : placeT t x s = p ∧ τ = timeAt t x p := by
  obtain ⟨i, hi, rfl⟩ := List.getElem_of_mem hx
  have f := h.trip i _ (List.getElem?_eq_getElem hi)
  have lf := lineAtT_facts h.net f.line0 f.line1
  obtain ⟨h1, h2⟩ := passT_of hp
  exact ⟨lf.uniq p s h1, h2⟩
theorem trip_eq {t : Timetable} (hr : ∀ (i j : Nat) (x y : Trip), i < j → t.Trips[i]? = some x → t.Trips[j]? = some y → x.Id < y.Id) {x y : Trip} (hx : x ∈ t.Trips) (hy : y ∈ t.Trips) (e : x.Id = y.Id) : x = y := by
  obtain ⟨i, hi⟩ := List.getElem?_of_mem hx
  obtain ⟨j, hj⟩ := List.getElem?_of_mem hy
  rcases Nat.lt_trichotomy i j with c | c | c
  · have := hr i j x y c hi hj; omega
  · subst c; rw [hi] at hj; exact Option.some.inj hj
  · have := hr j i y x c hj hi; omega
/-- legs lead from the first stop to stop, where one can board as of ready. -/
structure Pre (t : Timetable) (change from_ at_ : Int) (legs : List Leg) (stop ready : Int) : Prop where
  brd : ∀ tq, ready ≤ tq → Brd t change from_ at_ legs.length stop tq
  old : ∀ (i : Nat) (l : Leg), legs[i]? = some l → Brd t change from_ at_ i l.From l.Depart ∧ l.Depart < ready ∧ ∃ x, x ∈ t.Trips ∧ x.Id = l.Trip ∧ ∃ p : Nat, (passT t x)[p]? = some (l.From, l.Depart)
theorem Pre.start (t : Timetable) (change from_ at_ : Int) : Pre t change from_ at_ [] from_ at_ := ⟨fun tq h => ⟨rfl, h⟩, fun i l h => by simp at h⟩
/-- What remains to be done behind a leg. -/
def Fin (t : Timetable) (change to by_ : Int) (k : Nat) (s a : Int) : Prop := (k = 0 ∧ s = to ∧ a ≤ by_) ∨ (0 < k ∧ ∃ τ, τ ≤ by_ ∧ Within t change s (a + change) k to τ)
theorem lastOk_iff {t : Timetable} (ht : TimeFacts t) {change to by_ : Int} (hc : 0 ≤ change) (t0 : 0 ≤ to) (t1 : to < t.Network.Stops.length) (hby : by_ < never) {k : Nat} {s a : Int} (s0 : 0 ≤ s) (s1 : s < t.Network.Stops.length) :
    lastOk t change to by_ (k + 1) s a = true ↔ Fin t change to by_ k s a := by
  unfold lastOk Fin
  cases k with
  | zero => simp
  | succ k =>
    rw [if_neg (by omega), decide_eq_true_eq, show k + 1 + 1 - 1 = k + 1 by omega]
    have m := (arrL_min (stopsIn ht) hc (at_ := a + change) s0 s1 (k + 1)).2 to t0 t1
    constructor
    · intro h
      rcases m with ⟨e, _⟩ | ⟨e, _⟩
      · omega
      · exact .inr ⟨by omega, _, h, e⟩
    · rintro (⟨h, _⟩ | ⟨_, τ, h1, h2⟩)
      · omega
      · rcases m with ⟨_, e⟩ | ⟨_, e⟩
        · exact absurd h2 (e τ)
        · have := e τ h2; omega
structure Least (t : Timetable) (change from_ at_ to by_ : Int) (L : Nat) : Prop where
  low : ∀ τ, Within t change from_ at_ L to τ → by_ ≤ τ
  less : ∀ τ, Within t change from_ at_ (L - 1) to τ → by_ < τ
theorem within_mono {t : Timetable} {change from_ at_ : Int} {m n : Nat} (h : m ≤ n) {s τ : Int} (hw : Within t change from_ at_ m s τ) : Within t change from_ at_ n s τ := by
  obtain ⟨k, hk, hh⟩ := hw
  exact ⟨k, by omega, hh⟩
section
variable {t : Timetable} {change from_ at_ to by_ : Int} {L : Nat}
/-- One more leg. -/
theorem Pre.more (ht : TimeFacts t) (hc : 0 ≤ change) {legs : List Leg} {stop ready : Int} (h : Pre t change from_ at_ legs stop ready) {x : Trip} (hx : x ∈ t.Trips) {s : Int} (h0 : 0 ≤ placeT t x stop) (h1 : placeT t x stop < placeT t x s) (hr : ready ≤ (legOf t x stop s).Depart) :
    Hop t (Brd t change from_ at_ legs.length) s (legOf t x stop s).Arrive ∧ (legOf t x stop s).Depart < (legOf t x stop s).Arrive ∧ Pre t change from_ at_ (legs ++ [legOf t x stop s]) s ((legOf t x stop s).Arrive + change) := by
  have p1 := place_at h0
  have p2 := place_at (t := t) (x := x) (s := s) (by omega)
  have hlt : (placeT t x stop).toNat < (placeT t x s).toNat := by omega
  have hop : Hop t (Brd t change from_ at_ legs.length) s (legOf t x stop s).Arrive := hop_iff.2 ⟨x, hx, _, _, _, _, hlt, p1, h.brd _ hr, p2⟩
  have hda : (legOf t x stop s).Depart < (legOf t x stop s).Arrive := pass_lt ht hx hlt p1 p2
  refine ⟨hop, hda, fun tq hq => ?_, fun i l hl => ?_⟩
  · rw [List.length_append]
    exact ⟨_, hop, hq⟩
  · by_cases c : i < legs.length
    · rw [List.getElem?_append_left c] at hl
      obtain ⟨a1, a2, a3⟩ := h.old i l hl
      exact ⟨a1, by omega, a3⟩
    · have hi : i = legs.length := by
        have := (List.getElem?_eq_some_iff.1 hl).1
        simp at this; omega
      subst hi
      rw [List.getElem?_append_right (Nat.le_refl _)] at hl
      simp at hl
      subst hl
      exact ⟨h.brd _ hr, by omega, x, hx, rfl, _, p1⟩
theorem unused (ht : TimeFacts t) (hrise : ∀ (i j : Nat) (x y : Trip), i < j → t.Trips[i]? = some x → t.Trips[j]? = some y → x.Id < y.Id) (hl : Least t change from_ at_ to by_ L) {legs : List Leg} {stop ready : Int} (h : Pre t change from_ at_ legs stop ready)
    {x : Trip} (hx : x ∈ t.Trips) {s : Int} (h0 : 0 ≤ placeT t x stop) (h1 : placeT t x stop < placeT t x s) (hr : ready ≤ (legOf t x stop s).Depart) {k : Nat} (hk : legs.length + (k + 1) = L) (hf : Fin t change to by_ k s (legOf t x stop s).Arrive) :
    legs.any (tripIs x.Id) = false := by
  rw [List.any_eq_false]
  intro l hm
  obtain ⟨i, hi⟩ := List.getElem?_of_mem hm
  have hil := (List.getElem?_eq_some_iff.1 hi).1
  obtain ⟨a1, a2, y, hy, a3, p, a4⟩ := h.old i l hi
  simp only [tripIs, decide_eq_true_eq]
  intro e
  obtain rfl : y = x := trip_eq hrise hy hx (by rw [a3, e])
  have p1 := place_at h0
  have p2 := place_at (t := t) (x := y) (s := s) (by omega)
  have hda : (legOf t y stop s).Depart < (legOf t y stop s).Arrive := pass_lt ht hx (by omega) p1 p2
  have hlt : p < (placeT t y s).toNat := by
    rcases Nat.lt_trichotomy p (placeT t y s).toNat with c | c | c
    · exact c
    · rw [c, p2] at a4
      simp only [Option.some.injEq, Prod.mk.injEq] at a4
      have : (legOf t y stop s).Arrive = l.Depart := a4.2
      omega
    · have : (legOf t y stop s).Arrive < l.Depart := pass_lt ht hx c p2 a4
      omega
  have hop : Hop t (Brd t change from_ at_ i) s (legOf t y stop s).Arrive := hop_iff.2 ⟨y, hx, _, _, _, _, hlt, a4, a1, p2⟩
  rcases hf with ⟨k0, rfl, hle⟩ | ⟨k0, τ, hτ, hW⟩
  · have := hl.less _ ⟨i, by omega, hop⟩
    omega
  · have hW2 := within_comp (from_ := from_) (at_ := at_) (j := i + 1) (fun tq hq => ⟨_, hop, hq⟩) hW
    have := hl.less _ (within_mono (by omega) hW2)
    omega
theorem fin_le (ht : TimeFacts t) (hc : 0 ≤ change) {k : Nat} {s a : Int} (hf : Fin t change to by_ k s a) : a ≤ by_ := by
  rcases hf with ⟨_, _, h⟩ | ⟨_, τ, hτ, hW⟩
  · exact h
  · have := within_low ht hc hW; omega
theorem fin_within {k : Nat} {legs : List Leg} {s a : Int} (hop : Hop t (Brd t change from_ at_ legs.length) s a) (hf : Fin t change to by_ k s a) : ∃ τ, τ ≤ by_ ∧ Within t change from_ at_ (legs.length + (k + 1)) to τ := by
  rcases hf with ⟨rfl, rfl, hle⟩ | ⟨k0, τ, hτ, hW⟩
  · exact ⟨a, hle, legs.length, by omega, hop⟩
  · exact ⟨τ, hτ, within_mono (by omega) (within_comp (j := legs.length + 1) (fun tq hq => ⟨_, hop, hq⟩) hW)⟩
/-- There is a way to the end in time. -/
def Comp (t : Timetable) (change to by_ : Int) (k : Nat) (stop ready : Int) : Prop := ∃ τ, τ ≤ by_ ∧ Within t change stop ready k to τ
theorem fin_comp {k : Nat} {s a : Int} : Fin t change to by_ (k + 1) s a ↔ Comp t change to by_ (k + 1) s (a + change) := by
  unfold Fin Comp
  constructor
  · rintro (⟨h, _⟩ | ⟨_, h⟩)
    · omega
    · exact h
  · exact fun h => .inr ⟨by omega, h⟩
theorem tryStop_some {k : Nat} {x : Trip} {stop ready : Int} {s : Nat} {l : Leg} (h : tryStop t change stop to ready by_ k x s = some l) :
    l = legOf t x stop s ∧ 0 ≤ placeT t x stop ∧ placeT t x stop < placeT t x s ∧ ready ≤ (legOf t x stop s).Depart ∧ lastOk t change to by_ k s (legOf t x stop s).Arrive = true := by
  unfold tryStop at h
  split at h
  · rename_i c
    obtain ⟨c1, c2, c3⟩ := c
    obtain ⟨e, h0, h1⟩ := fill_of c1
    rw [e] at h c2 c3
    exact ⟨(Option.some.inj h).symm, h0, h1, c2, c3⟩
  · cases h
theorem tryStop_yes {k : Nat} {x : Trip} {stop ready : Int} {s : Nat} (h0 : 0 ≤ placeT t x stop) (h1 : placeT t x stop < placeT t x s) (hr : ready ≤ (legOf t x stop s).Depart) (hf : lastOk t change to by_ k s (legOf t x stop s).Arrive = true) :
    tryStop t change stop to ready by_ k x s = some (legOf t x stop s) := by
  unfold tryStop
  rw [fill_yes h0 h1]
  exact if_pos ⟨rfl, hr, hf⟩
theorem ext_eq (ht : TimeFacts t) (hrise : ∀ (i j : Nat) (x y : Trip), i < j → t.Trips[i]? = some x → t.Trips[j]? = some y → x.Id < y.Id) (hc : 0 ≤ change) (t0 : 0 ≤ to) (t1 : to < t.Network.Stops.length) (hby : by_ < never)
    (hl : Least t change from_ at_ to by_ L) (k : Nat) : ∀ (legs : List Leg) (stop ready : Int), Pre t change from_ at_ legs stop ready → legs.length + k = L → 0 < k →
    (Comp t change to by_ k stop ready → ext t change to by_ k legs stop ready = legs ++ journeyGo t change to by_ k stop ready ∧ ∃ l, (journeyGo t change to by_ k stop ready).getLast? = some l ∧ l.Arrive = by_) ∧
    ((¬ Comp t change to by_ k stop ready) → ext t change to by_ k legs stop ready = []) := by
  induction k with
  | zero => intro _ _ _ _ _ h; omega
  | succ k ih =>
    intro legs stop ready hP hlen _
    have hfin : ∀ (x : Trip) (s : Nat), s < t.Network.Stops.length → (lastOk t change to by_ (k + 1) s (legOf t x stop s).Arrive = true ↔ Fin t change to by_ k s (legOf t x stop s).Arrive) := fun x s hs => lastOk_iff ht hc t0 t1 hby (by omega) (by omega)
    have hby0 : ∀ (x : Trip) (s : Nat), x ∈ t.Trips → 0 ≤ placeT t x stop → placeT t x stop < placeT t x s → ready ≤ (legOf t x stop s).Depart → k = 0 → (s : Int) = to → by_ ≤ (legOf t x stop s).Arrive := fun x s hx h0 h1 hr k0 hs => by
      have hop := (hP.more ht hc hx h0 h1 hr).1
      rw [hs] at hop
      exact hl.low _ ⟨legs.length, by omega, by rw [hs]; exact hop⟩
    have key : ∀ x, x ∈ t.Trips → extTrip (ext t change to by_ k) t change to by_ k legs stop ready x = (tryTrip t change stop to ready by_ (k + 1) x).map fun l => legs ++ l :: journeyGo t change to by_ k l.To (l.Arrive + change) := by
      intro x hx
      have nil_ : (∀ s l, s < t.Network.Stops.length → tryStop t change stop to ready by_ (k + 1) x s ≠ some l) → tryTrip t change stop to ready by_ (k + 1) x = none := fun h => findSome_nil fun s hs => by
        cases e : tryStop t change stop to ready by_ (k + 1) x s with
        | none => rfl
        | some l => exact absurd e (h s l (List.mem_range.1 hs))
      unfold extTrip
      by_cases c : legs.any (tripIs x.Id) = true ∨ placeT t x stop < 0 ∨ timeAt t x (placeT t x stop).toNat < ready
      · rw [if_pos c, nil_ fun s l hs h => ?_]
        · rfl
        obtain ⟨_, h0, h1, h2, h3⟩ := tryStop_some h
        rcases c with c | c | c
        · rw [unused ht hrise hl hP hx h0 h1 h2 hlen ((hfin x s hs).1 h3)] at c
          cases c
        · omega
        · have : (legOf t x stop s).Depart = timeAt t x (placeT t x stop).toNat := rfl
          omega
      · rw [if_neg c]
        unfold tryTrip
        rw [← findSome_opt]
        refine findSome_congr fun s hs => ?_
        have hs := List.mem_range.1 hs
        unfold extStop
        by_cases c3 : placeT t x s ≤ placeT t x stop
        · rw [if_pos (.inl c3)]
          cases e : tryStop t change stop to ready by_ (k + 1) x s with
          | none => rfl
          | some l => have := (tryStop_some e).2.2.1; omega
        have h0 : 0 ≤ placeT t x stop := by omega
        have h1 : placeT t x stop < placeT t x s := by omega
        have hr : ready ≤ (legOf t x stop s).Depart := by
          have : (legOf t x stop s).Depart = timeAt t x (placeT t x stop).toNat := rfl
          omega
        obtain ⟨hop, hda, hP2⟩ := hP.more ht hc hx h0 h1 hr
        by_cases c4 : Fin t change to by_ k s (legOf t x stop s).Arrive
        · have hle := fin_le ht hc c4
          rw [tryStop_yes h0 h1 hr ((hfin x s hs).2 c4), if_neg (by omega)]
          simp only [Option.map_some]
          cases k with
          | zero =>
            rcases c4 with ⟨_, e, _⟩ | ⟨h, _⟩
            · have := hby0 x s hx h0 h1 hr rfl e
              rw [if_pos rfl, if_pos ⟨e, by omega⟩]
              rfl
            · omega
          | succ k =>
            have hR := (ih _ _ _ hP2 (by rw [List.length_append]; simp; omega) (by omega)).1 (fin_comp.1 c4)
            have hne : ext t change to by_ (k + 1) (legs ++ [legOf t x stop s]) s ((legOf t x stop s).Arrive + change) ≠ [] := by rw [hR.1]; simp
            rw [if_neg (by omega), if_neg hne, hR.1]
            simp
            rfl
        · have hno : tryStop t change stop to ready by_ (k + 1) x s = none := by
            cases e : tryStop t change stop to ready by_ (k + 1) x s with
            | none => rfl
            | some l => exact absurd ((hfin x s hs).1 (tryStop_some e).2.2.2.2) c4
          rw [hno]
          simp only [Option.map_none]
          by_cases c5 : by_ < (legOf t x stop s).Arrive
          · rw [if_pos (.inr c5)]
          rw [if_neg (by omega)]
          cases k with
          | zero =>
            rw [if_pos rfl, if_neg fun h => c4 (.inl ⟨rfl, h.1, by omega⟩)]
          | succ k =>
            have hR := (ih _ _ _ hP2 (by rw [List.length_append]; simp; omega) (by omega)).2 fun h => c4 (fin_comp.2 h)
            rw [if_neg (by omega), if_pos hR]
    have hext : ext t change to by_ (k + 1) legs stop ready = ((t.Trips.findSome? (tryTrip t change stop to ready by_ (k + 1))).map fun l => legs ++ l :: journeyGo t change to by_ k l.To (l.Arrive + change)).getD [] := by
      simp only [ext]
      rw [findSome_congr key, findSome_opt]
    cases e : t.Trips.findSome? (tryTrip t change stop to ready by_ (k + 1)) with
    | some l =>
      have hfl : firstL t change stop to ready by_ (k + 1) = l := by unfold firstL; rw [e]; rfl
      obtain ⟨x, hx, e2⟩ := findSome_mem e
      obtain ⟨s, hs, e3⟩ := findSome_mem e2
      have hs := List.mem_range.1 hs
      obtain ⟨rfl, h0, h1, hr, hf⟩ := tryStop_some e3
      have hF := (hfin x s hs).1 hf
      obtain ⟨_, _, hP2⟩ := hP.more ht hc hx h0 h1 hr
      have hcomp : Comp t change to by_ (k + 1) stop ready := by
        have hop := ((Pre.start t change stop ready).more ht hc hx h0 h1 hr).1
        have := fin_within hop hF
        simpa [Comp] using this
      refine ⟨fun _ => ⟨?_, ?_⟩, fun h => absurd hcomp h⟩
      · rw [hext, e]
        simp only [Option.map_some, Option.getD_some, journeyGo, hfl]
      · simp only [journeyGo, hfl]
        cases k with
        | zero =>
          refine ⟨legOf t x stop s, rfl, ?_⟩
          rcases hF with ⟨_, e4, h4⟩ | ⟨h, _⟩
          · have := hby0 x s hx h0 h1 hr rfl e4
            omega
          · omega
        | succ k =>
          obtain ⟨l2, h3, h4⟩ := ((ih _ _ _ hP2 (by rw [List.length_append]; simp; omega) (by omega)).1 (fin_comp.1 hF)).2
          refine ⟨l2, ?_, h4⟩
          rw [List.getLast?_cons, show (legOf t x stop s).To = (s : Int) from rfl, h3]
          rfl
    | none =>
      refine ⟨fun hcomp => ?_, fun _ => by rw [hext, e]; rfl⟩
      exfalso
      obtain ⟨τ, hτ, i, hi, hH⟩ := hcomp
      by_cases c : i = k
      · subst c
        obtain ⟨x, hx, p, q, ta, s1, τ1, hqp, hq, hr, hp, hB⟩ := brd_split i to (τ + change) ⟨τ, hH, Int.le_refl _⟩
        obtain ⟨e1, e2⟩ := place_of ht hx hq
        obtain ⟨e3, e4⟩ := place_of ht hx hp
        have hb := stopsIn ht x hx _ (List.mem_of_getElem? hp)
        simp only at hb
        obtain ⟨m, rfl⟩ := Int.eq_ofNat_of_zero_le hb.1
        have hA : (legOf t x stop m).Arrive = τ1 := by show timeAt t x (placeT t x m).toNat = τ1; rw [e3, e4]; rfl
        have hD : (legOf t x stop m).Depart = ta := by show timeAt t x (placeT t x stop).toNat = ta; rw [e1, e2]; rfl
        have hF : Fin t change to by_ i m (legOf t x stop m).Arrive := by
          rw [hA]
          cases i with
          | zero => exact .inl ⟨rfl, hB.1.symm, by have := hB.2; omega⟩
          | succ i =>
            obtain ⟨τ', h1, h2⟩ := hB
            exact .inr ⟨by omega, τ', by omega, i, by omega, h1⟩
        have h5 := tryStop_yes (t := t) (change := change) (to := to) (by_ := by_) (k := i + 1) (x := x) (stop := stop) (ready := ready) (s := m) (by omega) (by omega) (by rw [hD]; exact hr) ((hfin x m (by omega)).2 hF)
        have h6 := findSome_no (findSome_no e x hx) m (List.mem_range.2 (by omega))
        rw [h5] at h6
        cases h6
      · have hW := within_comp hP.brd (k := i + 1) ⟨i, by omega, hH⟩
        have := hl.less _ (within_mono (by omega) hW)
        omega
end
end Go.Proofs.Yteijofkkggifhaa
