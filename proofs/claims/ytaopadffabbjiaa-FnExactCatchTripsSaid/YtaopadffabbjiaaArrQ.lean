/-
  Earliest arrivals: the reference's way. Plain functions.
-/
import Derived.Test.YtaopadffabbjiaaArrP
namespace Go.Proofs.Ytaopadffabbjiaa
open Go Go.RowKit
set_option linter.unusedVariables false
set_option maxRecDepth 100000
def readyS (best : List Int) (wait from_ at_ s : Int) : Int := if s = from_ then at_ else gi best s + wait
def specGo (best : List Int) (wait from_ at_ : Int) : List (Int × Int) → Bool → List Int → List Int
  | [], _, next => next
  | (s, τ) :: l, on, next => specGo best wait from_ at_ l (on || (decide (0 ≤ gi best s) && decide (readyS best wait from_ at_ s ≤ τ))) (if on = true ∧ (gi next s < 0 ∨ τ < gi next s) then next.set s.toNat τ else next)
theorem specGo_len (best : List Int) (wait from_ at_ : Int) (l : List (Int × Int)) (on : Bool) (next : List Int) : (specGo best wait from_ at_ l on next).length = next.length := by
  induction l generalizing on next with
  | nil => rfl
  | cons y l ih =>
    obtain ⟨a, ta⟩ := y
    simp only [specGo, ih]
    split
    · simp
    · rfl
def up (v : Int) : Int := if v < 0 then never else v
def brdS (best : List Int) (wait from_ at_ a ta : Int) : Prop := 0 ≤ gi best a ∧ readyS best wait from_ at_ a ≤ ta
theorem specGo_glb {best : List Int} {wait from_ at_ : Int} {n : Nat} {l : List (Int × Int)} {on : Bool} {next : List Int} (hl : ∀ p, p ∈ l → 0 ≤ p.1 ∧ p.1 < n ∧ 0 ≤ p.2 ∧ p.2 ≤ 2099) (hn : next.length = n) {s : Int} (h0 : 0 ≤ s) (h1 : s < n) :
    Glb (up (gi next s)) (up (gi (specGo best wait from_ at_ l on next) s)) (Hits (brdS best wait from_ at_) l (on = true) s) := by
  induction l generalizing on next with
  | nil => exact ⟨Int.le_refl _, fun τ h => h.elim, .inl rfl⟩
  | cons y l ih =>
    obtain ⟨a, ta⟩ := y
    have ha := hl (a, ta) (by simp)
    simp only at ha
    have g := ih (on := on || (decide (0 ≤ gi best a) && decide (readyS best wait from_ at_ a ≤ ta))) (next := if on = true ∧ (gi next a < 0 ∨ ta < gi next a) then next.set a.toNat ta else next) (fun p hp => hl p (by simp [hp])) (by split <;> simp [hn])
    have hp : ((on || (decide (0 ≤ gi best a) && decide (readyS best wait from_ at_ a ≤ ta))) = true) = (on = true ∨ brdS best wait from_ at_ a ta) := by simp [brdS]
    rw [hp] at g
    simp only [specGo, Hits]
    by_cases c : on = true ∧ a = s
    · obtain ⟨c1, rfl⟩ := c
      have e : up (gi (if on = true ∧ (gi next a < 0 ∨ ta < gi next a) then next.set a.toNat ta else next) a) = lo (up (gi next a)) ta := by
        by_cases c2 : gi next a < 0 ∨ ta < gi next a
        · rw [if_pos ⟨c1, c2⟩, gi_self ha.1 (by rw [hn]; exact ha.2.1)]
          unfold up lo never
          split <;> split <;> (try split) <;> omega
        · rw [if_neg fun h => c2 h.2]
          unfold up lo never
          split <;> split <;> omega
      have k : Glb (up (gi next a)) (lo (up (gi next a)) ta) (fun τ => on = true ∧ a = a ∧ ta = τ) := by
        refine ⟨by unfold lo; split <;> omega, fun τ h => ?_, ?_⟩
        · obtain ⟨_, _, rfl⟩ := h
          unfold lo; split <;> omega
        · unfold lo
          split
          · exact .inr ⟨c1, rfl, rfl⟩
          · exact .inl rfl
      rw [e] at g
      exact k.trans g
    · have e : gi (if on = true ∧ (gi next a < 0 ∨ ta < gi next a) then next.set a.toNat ta else next) s = gi next s := by
        split
        · rename_i c1
          rw [gi_ne h0 ha.1 fun e => c ⟨c1.1, e⟩]
        · rfl
      rw [e] at g
      refine g.congr fun τ => ⟨.inr, ?_⟩
      rintro (⟨h1, h2, _⟩ | h)
      · exact absurd ⟨h1, h2⟩ c
      · exact h
def specAll (t : Timetable) (best : List Int) (wait from_ at_ : Int) : List Trip → List Int → List Int
  | [], next => next
  | x :: l, next => specAll t best wait from_ at_ l (specGo best wait from_ at_ (passT t x) false next)
theorem specAll_len (t : Timetable) (best : List Int) (wait from_ at_ : Int) (l : List Trip) (next : List Int) : (specAll t best wait from_ at_ l next).length = next.length := by
  induction l generalizing next with
  | nil => rfl
  | cons x l ih => simp only [specAll, ih, specGo_len]
theorem specAll_glb {t : Timetable} {best : List Int} {wait from_ at_ : Int} {n : Nat} {l : List Trip} {next : List Int} (hl : ∀ x, x ∈ l → ∀ p, p ∈ passT t x → 0 ≤ p.1 ∧ p.1 < n ∧ 0 ≤ p.2 ∧ p.2 ≤ 2099) (hn : next.length = n) {s : Int} (h0 : 0 ≤ s) (h1 : s < n) :
    Glb (up (gi next s)) (up (gi (specAll t best wait from_ at_ l next) s)) (fun τ => ∃ x, x ∈ l ∧ Hits (brdS best wait from_ at_) (passT t x) False s τ) := by
  induction l generalizing next with
  | nil => exact ⟨Int.le_refl _, fun τ ⟨x, hx, _⟩ => by simp at hx, .inl rfl⟩
  | cons y l ih =>
    simp only [specAll]
    have g1 := specGo_glb (best := best) (wait := wait) (from_ := from_) (at_ := at_) (on := false) (hl y (by simp)) hn h0 h1
    rw [show (false = true) = False by simp] at g1
    have g2 := ih (next := specGo best wait from_ at_ (passT t y) false next) (fun x hx => hl x (by simp [hx])) (by rw [specGo_len]; exact hn)
    refine (g1.trans g2).congr fun τ => ⟨?_, ?_⟩
    · rintro (h | ⟨x, hx, h⟩)
      · exact ⟨y, by simp, h⟩
      · exact ⟨x, by simp [hx], h⟩
    · rintro ⟨x, hx, h⟩
      rcases List.mem_cons.1 hx with rfl | hx
      · exact .inl h
      · exact .inr ⟨x, hx, h⟩
theorem specGo_rng {best : List Int} {wait from_ at_ : Int} {n : Nat} {l : List (Int × Int)} {on : Bool} {next : List Int} (hl : ∀ p, p ∈ l → 0 ≤ p.1 ∧ p.1 < n ∧ 0 ≤ p.2 ∧ p.2 ≤ 2099) (hn : next.length = n) (h : ∀ s : Int, 0 ≤ s → s < n → -1 ≤ gi next s ∧ gi next s ≤ 2099) :
    ∀ s : Int, 0 ≤ s → s < n → -1 ≤ gi (specGo best wait from_ at_ l on next) s ∧ gi (specGo best wait from_ at_ l on next) s ≤ 2099 := by
  induction l generalizing on next with
  | nil => exact h
  | cons y l ih =>
    obtain ⟨a, ta⟩ := y
    have ha := hl (a, ta) (by simp)
    simp only at ha
    simp only [specGo]
    refine ih (fun p hp => hl p (by simp [hp])) (by split <;> simp [hn]) fun s s0 s1 => ?_
    split
    · by_cases e : a = s
      · subst e
        rw [gi_self s0 (by rw [hn]; exact s1)]
        omega
      · rw [gi_ne s0 ha.1 e]
        exact h s s0 s1
    · exact h s s0 s1
theorem specAll_rng {t : Timetable} {best : List Int} {wait from_ at_ : Int} {n : Nat} {l : List Trip} {next : List Int} (hl : ∀ x, x ∈ l → ∀ p, p ∈ passT t x → 0 ≤ p.1 ∧ p.1 < n ∧ 0 ≤ p.2 ∧ p.2 ≤ 2099) (hn : next.length = n) (h : ∀ s : Int, 0 ≤ s → s < n → -1 ≤ gi next s ∧ gi next s ≤ 2099) :
    ∀ s : Int, 0 ≤ s → s < n → -1 ≤ gi (specAll t best wait from_ at_ l next) s ∧ gi (specAll t best wait from_ at_ l next) s ≤ 2099 := by
  induction l generalizing next with
  | nil => exact h
  | cons x l ih =>
    simp only [specAll]
    exact ih (fun y hy => hl y (by simp [hy])) (by rw [specGo_len]; exact hn) (specGo_rng (hl x (by simp)) hn h)
theorem isMin_of_glb {b r : Int} {S S' : Int → Prop} (h : IsMin b S) (g : Glb b r S') (hs : ∀ τ, S τ → S' τ) (hb : ∀ τ, S' τ → τ < never) : IsMin r S' := by
  rcases g.att with e | e
  · rcases h with ⟨e1, h1⟩ | ⟨h1, h2⟩
    · refine .inl ⟨e.trans e1, fun τ hτ => ?_⟩
      have := g.low τ hτ
      have := hb τ hτ
      omega
    · exact .inr ⟨by rw [e]; exact hs _ h1, g.low⟩
  · exact .inr ⟨e, g.low⟩
/-- One round. -/
def specStep (t : Timetable) (change from_ at_ : Int) (r : Nat) (best : List Int) : List Int := specAll t best (if r = 0 then 0 else change) from_ at_ t.Trips best
def specR (t : Timetable) (change from_ at_ : Int) : Nat → Nat → List Int → List Int
  | 0, _, best => best
  | m + 1, r, best => specR t change from_ at_ m (r + 1) (specStep t change from_ at_ r best)
def arrS (t : Timetable) (change from_ at_ : Int) (legs : Nat) : List Int := specR t change from_ at_ legs 0 ((List.replicate t.Network.Stops.length (-1)).set from_.toNat at_)
/-! ### Times rise along a trip -/
theorem runSum_mono {ns : Nat} {x : Line} (h : LineFacts ns x) {i j : Nat} (hij : i ≤ j) : runSum x i ≤ runSum x j := by
  unfold runSum
  have e : x.Runs.take j = x.Runs.take i ++ (x.Runs.take j).drop i := by
    have := List.take_append_drop i (x.Runs.take j)
    rw [List.take_take, Nat.min_eq_left hij] at this
    exact this.symm
  rw [e, sumI_append]
  have := sumI_bd (l := (x.Runs.take j).drop i) (lo := 0) (hi := 60) fun y hy => by have := h.run y (List.mem_of_mem_take (List.mem_of_mem_drop hy)); omega
  omega
theorem runSum_lt {ns : Nat} {x : Line} (h : LineFacts ns x) {i j : Nat} (hij : i < j) (hj : j < x.Stops.length) : runSum x i < runSum x j := by
  have h1 := runSum_mono h (show i + 1 ≤ j by omega)
  have hr := h.runs
  have h2 := runSum_succ (x := x) (k := i) (List.getElem?_eq_getElem (show i < x.Runs.length by omega))
  have h3 := h.run _ (List.getElem_mem (show i < x.Runs.length by omega))
  omega
theorem pass_lt {t : Timetable} (h : TimeFacts t) {x : Trip} (hx : x ∈ t.Trips) {q p : Nat} {a ta s τ : Int} (hqp : q < p) (ha : (passT t x)[q]? = some (a, ta)) (hp : (passT t x)[p]? = some (s, τ)) : ta < τ := by
  obtain ⟨i, hi, rfl⟩ := List.getElem_of_mem hx
  have f := h.trip i _ (List.getElem?_eq_getElem hi)
  have lf := lineAtT_facts h.net f.line0 f.line1
  obtain ⟨h1, rfl⟩ := passT_of ha
  obtain ⟨h2, rfl⟩ := passT_of hp
  have := runSum_lt lf hqp (List.getElem?_eq_some_iff.1 h2).1
  unfold timeAt
  omega
theorem hop_low {t : Timetable} (h : TimeFacts t) {brd : Int → Int → Prop} {at_ s τ : Int} (hb : ∀ a ta, brd a ta → at_ ≤ ta) (hh : Hop t brd s τ) : at_ < τ := by
  obtain ⟨x, hx, p, q, a, ta, hq, ha, hB, hp⟩ := hop_iff.1 hh
  have := hb _ _ hB
  have := pass_lt h hx hq ha hp
  omega
theorem brd_low {t : Timetable} (h : TimeFacts t) {change from_ at_ : Int} (hc : 0 ≤ change) (k : Nat) : ∀ s tq : Int, Brd t change from_ at_ k s tq → at_ ≤ tq := by
  induction k with
  | zero => exact fun s tq hb => hb.2
  | succ k ih =>
    rintro s tq ⟨τ, hH, hτ⟩
    have := hop_low h ih hH
    omega
theorem within_low {t : Timetable} (h : TimeFacts t) {change from_ at_ : Int} (hc : 0 ≤ change) {m : Nat} {s τ : Int} (hw : Within t change from_ at_ m s τ) : at_ < τ := by
  obtain ⟨k, _, hk⟩ := hw
  exact hop_low h (brd_low h hc k) hk
/-! ### Rounds -/
structure SpecInv (t : Timetable) (change from_ at_ : Int) (n m : Nat) (best : List Int) : Prop where
  len : best.length = n
  own : gi best from_ = at_
  rng : ∀ s : Int, 0 ≤ s → s < n → -1 ≤ gi best s ∧ gi best s ≤ 2099
  min : ∀ s : Int, 0 ≤ s → s < n → s ≠ from_ → IsMin (up (gi best s)) (Within t change from_ at_ m s)
theorem SpecInv.start (t : Timetable) (change : Int) {from_ at_ : Int} {n : Nat} (h0 : 0 ≤ from_) (h1 : from_ < n) (a0 : 0 ≤ at_) (a1 : at_ ≤ 2099) : SpecInv t change from_ at_ n 0 ((List.replicate n (-1)).set from_.toNat at_) := by
  have gf : gi ((List.replicate n (-1)).set from_.toNat at_) from_ = at_ := gi_self h0 (by simpa using h1)
  have gn : ∀ s : Int, 0 ≤ s → s < n → s ≠ from_ → gi ((List.replicate n (-1)).set from_.toNat at_) s = -1 := fun s s0 s1 e => by rw [gi_ne s0 h0 (Ne.symm e), gi_rep s0 s1]
  refine ⟨by simp, gf, fun s s0 s1 => ?_, fun s s0 s1 e => .inl ⟨by rw [gn s s0 s1 e]; rfl, fun τ ⟨k, hk, _⟩ => by omega⟩⟩
  by_cases e : s = from_
  · subst e; rw [gf]; omega
  · rw [gn s s0 s1 e]; omega
theorem SpecInv.step {t : Timetable} (ht : TimeFacts t) {change from_ at_ : Int} {m : Nat} {best : List Int} (hc : 0 ≤ change) (h0 : 0 ≤ from_) (h1 : from_ < t.Network.Stops.length) (a0 : 0 ≤ at_) (h : SpecInv t change from_ at_ t.Network.Stops.length m best) :
    SpecInv t change from_ at_ t.Network.Stops.length (m + 1) (specStep t change from_ at_ m best) := by
  have hs := stopsIn ht
  have hg := fun (s : Int) (s0 : 0 ≤ s) (s1 : s < t.Network.Stops.length) => specAll_glb (best := best) (wait := if m = 0 then 0 else change) (from_ := from_) (at_ := at_) (l := t.Trips) (next := best) hs h.len s0 s1
  have e1 : ∀ a ta : Int, 0 ≤ a → a < t.Network.Stops.length → ta ≤ 2099 → (brdS best (if m = 0 then 0 else change) from_ at_ a ta ↔ ∃ j, j ≤ m ∧ Brd t change from_ at_ j a ta) := fun a ta b0 b1 b2 => by
    unfold brdS readyS
    by_cases e : a = from_
    · subst e
      rw [if_pos rfl, h.own]
      constructor
      · rintro ⟨_, h2⟩; exact ⟨0, by omega, rfl, h2⟩
      · rintro ⟨j, _, hB⟩; exact ⟨a0, brd_low ht hc j _ _ hB⟩
    · rw [if_neg e]
      constructor
      · rintro ⟨h2, h3⟩
        rcases h.min a b0 b1 e with ⟨h4, _⟩ | ⟨⟨k, hk, h4⟩, _⟩
        · have := h.rng a b0 b1
          rw [show up (gi best a) = gi best a from if_neg (by omega)] at h4
          unfold never at h4; omega
        · rw [show up (gi best a) = gi best a from if_neg (by omega)] at h4
          rw [if_neg (show ¬ m = 0 by omega)] at h3
          exact ⟨k + 1, by omega, _, h4, h3⟩
      · rintro ⟨j, hj, hB⟩
        cases j with
        | zero => exact absurd hB.1 e
        | succ j =>
          obtain ⟨τ, hH, hτ⟩ := hB
          have hW : Within t change from_ at_ m a τ := ⟨j, by omega, hH⟩
          have hbd := hop_bd hs hH
          rcases h.min a b0 b1 e with ⟨_, h4⟩ | ⟨h4, h5⟩
          · exact absurd hW (h4 τ)
          · have h6 := h5 τ hW
            have h7 : 0 ≤ gi best a := by
              unfold up at h6
              split at h6
              · unfold never at h6; omega
              · omega
            rw [show up (gi best a) = gi best a from if_neg (by omega)] at h6
            rw [if_neg (show ¬ m = 0 by omega)]
            omega
  have e2 : ∀ s τ, Hop t (brdS best (if m = 0 then 0 else change) from_ at_) s τ ↔ Within t change from_ at_ (m + 1) s τ := fun s τ => by
    constructor
    · intro hH
      obtain ⟨x, hx, p, q, a, ta, hq, ha, hB, hp⟩ := hop_iff.1 hH
      have hb := hs x hx _ (List.mem_of_getElem? ha)
      obtain ⟨j, hj, hB⟩ := (e1 a ta hb.1 hb.2.1 hb.2.2.2).1 hB
      exact ⟨j, by omega, hop_iff.2 ⟨x, hx, p, q, a, ta, hq, ha, hB, hp⟩⟩
    · rintro ⟨j, hj, hH⟩
      obtain ⟨x, hx, p, q, a, ta, hq, ha, hB, hp⟩ := hop_iff.1 hH
      have hb := hs x hx _ (List.mem_of_getElem? ha)
      exact hop_iff.2 ⟨x, hx, p, q, a, ta, hq, ha, (e1 a ta hb.1 hb.2.1 hb.2.2.2).2 ⟨j, by omega, hB⟩, hp⟩
  have hg2 := fun s s0 s1 => (hg s s0 s1).congr (e2 s)
  have hlen : (specStep t change from_ at_ m best).length = t.Network.Stops.length := by unfold specStep; rw [specAll_len]; exact h.len
  have hrng := specAll_rng (best := best) (wait := if m = 0 then 0 else change) (from_ := from_) (at_ := at_) (l := t.Trips) (next := best) hs h.len h.rng
  refine ⟨hlen, ?_, hrng, fun s s0 s1 e => isMin_of_glb (h.min s s0 s1 e) (hg2 s s0 s1) (fun τ ⟨k, hk, hh⟩ => ⟨k, by omega, hh⟩) fun τ ⟨k, _, hh⟩ => by have := hop_bd hs hh; unfold never; omega⟩
  have g := hg2 from_ h0 h1
  have r := hrng from_ h0 h1
  rw [h.own, show up at_ = at_ from if_neg (by omega)] at g
  have r' := h.rng from_ h0 h1
  rw [h.own] at r'
  have hv : up (gi (specAll t best (if m = 0 then 0 else change) from_ at_ t.Trips best) from_) = at_ := by
    rcases g.att with e | e
    · exact e
    · have := within_low ht hc e
      have := g.le
      omega
  unfold specStep
  generalize gi (specAll t best (if m = 0 then 0 else change) from_ at_ t.Trips best) from_ = v at hv ⊢
  unfold up at hv
  split at hv
  · unfold never at hv; omega
  · exact hv
theorem SpecInv.go {t : Timetable} (ht : TimeFacts t) {change from_ at_ : Int} (hc : 0 ≤ change) (h0 : 0 ≤ from_) (h1 : from_ < t.Network.Stops.length) (a0 : 0 ≤ at_) (k : Nat) : ∀ {m : Nat} {best : List Int}, SpecInv t change from_ at_ t.Network.Stops.length m best →
    SpecInv t change from_ at_ t.Network.Stops.length (m + k) (specR t change from_ at_ k m best) := by
  induction k with
  | zero => intro m best h; exact h
  | succ k ih =>
    intro m best h
    have := ih (h.step ht hc h0 h1 a0)
    rw [show m + (k + 1) = m + 1 + k by omega]
    exact this
theorem arrS_inv {t : Timetable} (ht : TimeFacts t) {change from_ at_ : Int} (hc : 0 ≤ change) (h0 : 0 ≤ from_) (h1 : from_ < t.Network.Stops.length) (a0 : 0 ≤ at_) (a1 : at_ ≤ 2099) (m : Nat) :
    SpecInv t change from_ at_ t.Network.Stops.length m (arrS t change from_ at_ m) := by
  have := SpecInv.go ht hc h0 h1 a0 m (SpecInv.start t change h0 h1 a0 a1)
  rw [Nat.zero_add] at this
  exact this
/-- Both ways agree at each stop but the first. -/
def encN (v : Int) : Int := if v = never then -1 else v
theorem arr_same {t : Timetable} (ht : TimeFacts t) {change from_ at_ : Int} (hc : 0 ≤ change) (h0 : 0 ≤ from_) (h1 : from_ < t.Network.Stops.length) (a0 : 0 ≤ at_) (a1 : at_ ≤ 2099) (m : Nat) {s : Int} (s0 : 0 ≤ s) (s1 : s < t.Network.Stops.length) (hs : s ≠ from_) :
    gi (arrS t change from_ at_ m) s = encN (gi (arrL t change (readyL t.Network.Stops.length from_ at_) m) s) := by
  have h := arrS_inv ht hc h0 h1 a0 a1 m
  have e := (h.min s s0 s1 hs).uniq ((arrL_min (stopsIn ht) hc h0 h1 m).2 s s0 s1)
  have r := h.rng s s0 s1
  rw [← e]
  unfold encN up never
  split <;> split <;> omega
end Go.Proofs.Ytaopadffabbjiaa
