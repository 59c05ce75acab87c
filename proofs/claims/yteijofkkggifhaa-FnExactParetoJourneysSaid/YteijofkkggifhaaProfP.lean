/-
  Departures, the latest departure and the profile: both ways agree. Plain functions.
-/
import Derived.Test.YteijofkkggifhaaFirstP
import Derived.Test.YteijofkkggifhaaRestP
import Derived.Lib.SlicesCompact
namespace Go.Proofs.Yteijofkkggifhaa
open Go Go.RowKit
set_option linter.unusedVariables false
set_option maxRecDepth 100000
/-! ### Rising lists -/
def Asc (l : List Int) : Prop := l.Pairwise (fun a b => a < b)
theorem compactUp_spec {S : List Int} (hs : S.Pairwise (fun a b => a ≤ b)) (m : Nat) (hm : m ≤ S.length) :
    Asc (Lib.compactUpTo S.toArray m) ∧ (∀ v, v ∈ Lib.compactUpTo S.toArray m ↔ v ∈ S.take m) := by
  induction m with
  | zero => exact ⟨List.Pairwise.nil, fun v => by simp [Lib.compactUpTo]⟩
  | succ m ih =>
    obtain ⟨h1, h2⟩ := ih (by omega)
    have hml : m < S.length := by omega
    have g : ∀ j (hj : j < S.length), S.toArray[j]! = S[j] := fun j hj => by simp [hj]
    have ht : S.take (m + 1) = S.take m ++ [S[m]] := take_succ_at (List.getElem?_eq_getElem hml)
    rw [Lib.compactUpTo_succ, ht]
    by_cases c : Lib.keeps S.toArray m = true
    · rw [if_pos c, g m hml]
      refine ⟨?_, fun v => by rw [List.mem_append, List.mem_append, h2]⟩
      unfold Asc
      rw [List.pairwise_append]
      refine ⟨h1, by simp, fun a ha b hb => ?_⟩
      simp only [List.mem_singleton] at hb
      subst hb
      rw [h2] at ha
      simp only [Lib.keeps, decide_eq_true_eq] at c
      obtain ⟨j, hj⟩ := List.getElem?_of_mem ha
      have hjm : j < m := by
        have := (List.getElem?_eq_some_iff.1 hj).1
        rw [List.length_take] at this; omega
      rw [List.getElem?_take_of_lt hjm] at hj
      obtain ⟨hjl, rfl⟩ := List.getElem?_eq_some_iff.1 hj
      rcases c with c | c
      · omega
      · rw [g m hml, g (m - 1) (by omega)] at c
        have h3 : S[m - 1] ≤ S[m] := (List.pairwise_iff_getElem.1 hs) (m - 1) m (by omega) hml (by omega)
        have h4 : S[j] ≤ S[m - 1] := by
          by_cases e : j = m - 1
          · subst e; exact Int.le_refl _
          · exact (List.pairwise_iff_getElem.1 hs) j (m - 1) hjl (by omega) (by omega)
        have h5 : S[m] ≠ S[m - 1] := c
        omega
    · rw [if_neg c, List.append_nil]
      refine ⟨h1, fun v => ?_⟩
      rw [h2, List.mem_append, List.mem_singleton]
      constructor
      · exact .inl
      · rintro (h | rfl)
        · exact h
        · have c' : Lib.keeps S.toArray m = false := by simpa using c
          simp only [Lib.keeps, decide_eq_false_iff_not, not_or, Decidable.not_not] at c'
          have h3 : S[m] = S[m - 1] := by have := c'.2; rw [g m hml, g (m - 1) (by omega)] at this; exact this
          have h0 : m ≠ 0 := c'.1
          rw [h3]
          exact List.mem_of_getElem? (i := m - 1) (by rw [List.getElem?_take_of_lt (by omega), List.getElem?_eq_getElem (by omega)])
theorem compact_asc (l : List Int) : Asc (Lib.compact (sortI l)) ∧ ∀ v, v ∈ Lib.compact (sortI l) ↔ v ∈ l := by
  obtain ⟨h1, h2⟩ := compactUp_spec (sortI_sorted l) (sortI l).length (Nat.le_refl _)
  refine ⟨h1, fun v => ?_⟩
  have := h2 v
  rw [List.take_length] at this
  exact this.trans (sortI_perm l).mem_iff
/-- The reference's way of putting a number into a rising list. -/
def putI : List Int → Int → List Int
  | [], n => [n]
  | x :: l, n => if x < n then x :: putI l n else if x = n then x :: l else n :: x :: l
theorem putI_mem (l : List Int) (n v : Int) : v ∈ putI l n ↔ v = n ∨ v ∈ l := by
  induction l with
  | nil => simp [putI]
  | cons x l ih =>
    simp only [putI]
    split
    · simp only [List.mem_cons, ih]
      constructor
      · rintro (h | h | h) <;> simp [h]
      · rintro (h | h | h) <;> simp [h]
    · split
      · rename_i h; subst h; simp
      · simp
theorem putI_asc {l : List Int} (n : Int) (h : Asc l) : Asc (putI l n) := by
  induction l with
  | nil => exact List.pairwise_singleton _ _
  | cons x l ih =>
    unfold Asc at h
    rw [List.pairwise_cons] at h
    simp only [putI]
    split
    · rename_i c
      refine List.pairwise_cons.2 ⟨fun b hb => ?_, ih h.2⟩
      rcases (putI_mem l n b).1 hb with rfl | hb
      · exact c
      · exact h.1 b hb
    · split
      · exact List.pairwise_cons.2 h
      · refine List.pairwise_cons.2 ⟨fun b hb => ?_, List.pairwise_cons.2 h⟩
        rcases List.mem_cons.1 hb with rfl | hb
        · omega
        · have := h.1 b hb; omega
/-- .. by the place where it goes. -/
theorem putI_at {l : List Int} {n : Int} {k : Nat} (hk : k ≤ l.length) (h : ∀ (j : Nat) (v : Int), j < k → l[j]? = some v → v < n) :
    (∀ v, l[k]? = some v → ¬ v < n → v = n → putI l n = l) ∧ ((∀ v, l[k]? = some v → ¬ v < n ∧ v ≠ n) → putI l n = l.take k ++ [n] ++ l.drop k) := by
  induction l generalizing k with
  | nil =>
    refine ⟨fun v hv => by simp at hv, fun _ => ?_⟩
    simp [putI]
  | cons x l ih =>
    cases k with
    | zero =>
      refine ⟨fun v hv h1 h2 => ?_, fun h2 => ?_⟩
      · simp at hv; subst hv
        simp only [putI]
        rw [if_neg h1, if_pos h2]
      · have := h2 x rfl
        simp only [putI]
        rw [if_neg this.1, if_neg this.2]
        simp
    | succ k =>
      have hx := h 0 x (by omega) rfl
      have := ih (k := k) (by simpa using hk) fun j v hj hv => h (j + 1) v (by omega) (by simpa using hv)
      refine ⟨fun v hv h1 h2 => ?_, fun h2 => ?_⟩
      · simp only [putI]
        rw [if_pos hx, this.1 v (by simpa using hv) h1 h2]
      · simp only [putI]
        rw [if_pos hx, this.2 fun v hv => h2 v (by simpa using hv)]
        simp
/-! ### Departures -/
def dep1 (t : Timetable) (from_ : Int) (x : Trip) : Option Int :=
  if 0 ≤ placeT t x from_ ∧ placeT t x from_ < ((lineAtT t x.Line).Stops.length : Int) - 1 then some (timeAt t x (placeT t x from_).toNat) else none
def dep0 (t : Timetable) (from_ : Int) : List Int := t.Trips.filterMap (dep1 t from_)
def depsI (t : Timetable) (from_ : Int) : List Int := Lib.compact (sortI (dep0 t from_))
def putGo (t : Timetable) (from_ : Int) : List Trip → List Int → List Int
  | [], out => out
  | x :: l, out => putGo t from_ l (if 0 ≤ placeT t x from_ then putI out (timeAt t x (placeT t x from_).toNat) else out)
def depsS (t : Timetable) (from_ : Int) : List Int := putGo t from_ t.Trips []
theorem putGo_spec (t : Timetable) (from_ : Int) (l : List Trip) (out : List Int) (h : Asc out) :
    Asc (putGo t from_ l out) ∧ ∀ v, v ∈ putGo t from_ l out ↔ v ∈ out ∨ ∃ x, x ∈ l ∧ 0 ≤ placeT t x from_ ∧ v = timeAt t x (placeT t x from_).toNat := by
  induction l generalizing out with
  | nil => exact ⟨h, fun v => by simp [putGo]⟩
  | cons y l ih =>
    simp only [putGo]
    by_cases c : 0 ≤ placeT t y from_
    · rw [if_pos c]
      obtain ⟨h1, h2⟩ := ih _ (putI_asc (timeAt t y (placeT t y from_).toNat) h)
      refine ⟨h1, fun v => ?_⟩
      rw [h2, putI_mem]
      constructor
      · rintro ((rfl | h) | ⟨x, hx, h⟩)
        · exact .inr ⟨y, by simp, c, rfl⟩
        · exact .inl h
        · exact .inr ⟨x, by simp [hx], h⟩
      · rintro (h | ⟨x, hx, h3, h4⟩)
        · exact .inl (.inr h)
        · rcases List.mem_cons.1 hx with rfl | hx
          · exact .inl (.inl h4)
          · exact .inr ⟨x, hx, h3, h4⟩
    · rw [if_neg c]
      obtain ⟨h1, h2⟩ := ih _ h
      refine ⟨h1, fun v => ?_⟩
      rw [h2]
      constructor
      · rintro (h | ⟨x, hx, h⟩)
        · exact .inl h
        · exact .inr ⟨x, by simp [hx], h⟩
      · rintro (h | ⟨x, hx, h3, h4⟩)
        · exact .inl h
        · rcases List.mem_cons.1 hx with rfl | hx
          · exact absurd h3 c
          · exact .inr ⟨x, hx, h3, h4⟩
theorem depsI_asc (t : Timetable) (from_ : Int) : Asc (depsI t from_) := (compact_asc _).1
theorem depsI_mem {t : Timetable} {from_ v : Int} : v ∈ depsI t from_ ↔ ∃ x, x ∈ t.Trips ∧ dep1 t from_ x = some v := by
  unfold depsI
  rw [(compact_asc _).2]
  unfold dep0
  rw [List.mem_filterMap]
theorem depsS_asc (t : Timetable) (from_ : Int) : Asc (depsS t from_) := (putGo_spec t from_ t.Trips [] List.Pairwise.nil).1
theorem depsS_mem {t : Timetable} {from_ v : Int} : v ∈ depsS t from_ ↔ ∃ x, x ∈ t.Trips ∧ 0 ≤ placeT t x from_ ∧ v = timeAt t x (placeT t x from_).toNat := by
  unfold depsS
  rw [(putGo_spec t from_ t.Trips [] List.Pairwise.nil).2]
  simp
theorem deps_sub {t : Timetable} {from_ v : Int} (h : v ∈ depsI t from_) : v ∈ depsS t from_ := by
  obtain ⟨x, hx, h1⟩ := depsI_mem.1 h
  unfold dep1 at h1
  split at h1
  · rename_i c
    exact depsS_mem.2 ⟨x, hx, c.1, (Option.some.inj h1).symm⟩
  · cases h1
theorem deps_bd {t : Timetable} (ht : TimeFacts t) {from_ v : Int} (h : v ∈ depsS t from_) : 0 ≤ v ∧ v ≤ 2099 := by
  obtain ⟨x, hx, h0, rfl⟩ := depsS_mem.1 h
  have := stopsIn ht x hx _ (List.mem_of_getElem? (place_at h0))
  exact ⟨this.2.2.1, this.2.2.2⟩
theorem depsI_len (t : Timetable) (from_ : Int) : (depsI t from_).length ≤ t.Trips.length := by
  unfold depsI
  have h1 : (Lib.compact (sortI (dep0 t from_))).length ≤ (sortI (dep0 t from_)).length := by
    unfold Lib.compact Lib.compactUpTo
    rw [List.length_map]
    refine Nat.le_trans (List.length_filter_le _ _) ?_
    simp
  rw [(sortI_perm _).length_eq] at h1
  exact Nat.le_trans h1 (List.length_filterMap_le _ _)
/-! ### Arrivals by departure -/
def arrV (t : Timetable) (change from_ at_ : Int) (m : Nat) (to : Int) : Int := gi (arrL t change (readyL t.Network.Stops.length from_ at_) m) to
section
variable {t : Timetable} {change from_ at_ to : Int}
theorem arrV_min (ht : TimeFacts t) (hc : 0 ≤ change) (h0 : 0 ≤ from_) (h1 : from_ < t.Network.Stops.length) (t0 : 0 ≤ to) (t1 : to < t.Network.Stops.length) (m : Nat) : IsMin (arrV t change from_ at_ m to) (Within t change from_ at_ m to) :=
  (arrL_min (stopsIn ht) hc h0 h1 m).2 to t0 t1
theorem isMin_le {v : Int} {S : Int → Prop} (h : IsMin v S) {τ : Int} (hτ : S τ) : v ≤ τ := by
  rcases h with ⟨_, h⟩ | ⟨_, h⟩
  · exact absurd hτ (h τ)
  · exact h τ hτ
theorem isMin_att {v : Int} {S : Int → Prop} (h : IsMin v S) (hv : v < never) : S v := by
  rcases h with ⟨e, _⟩ | ⟨h, _⟩
  · omega
  · exact h
theorem within_bd (ht : TimeFacts t) {m : Nat} {s τ : Int} (h : Within t change from_ at_ m s τ) : 0 ≤ s ∧ s < t.Network.Stops.length ∧ 0 ≤ τ ∧ τ ≤ 2099 := by
  obtain ⟨k, _, hk⟩ := h
  exact hop_bd (stopsIn ht) hk
theorem arrV_le (ht : TimeFacts t) (hc : 0 ≤ change) (h0 : 0 ≤ from_) (h1 : from_ < t.Network.Stops.length) (t0 : 0 ≤ to) (t1 : to < t.Network.Stops.length) (m : Nat) : arrV t change from_ at_ m to ≤ never := by
  rcases arrV_min ht hc h0 h1 t0 t1 (at_ := at_) m with ⟨e, _⟩ | ⟨h, _⟩
  · omega
  · have := within_bd ht h; unfold never; omega
theorem arrV_mono (ht : TimeFacts t) (hc : 0 ≤ change) (h0 : 0 ≤ from_) (h1 : from_ < t.Network.Stops.length) (t0 : 0 ≤ to) (t1 : to < t.Network.Stops.length) {m n : Nat} (h : m ≤ n) : arrV t change from_ at_ n to ≤ arrV t change from_ at_ m to := by
  rcases arrV_min ht hc h0 h1 t0 t1 (at_ := at_) m with ⟨e, _⟩ | ⟨h2, _⟩
  · rw [e]; exact arrV_le ht hc h0 h1 t0 t1 n
  · exact isMin_le (arrV_min ht hc h0 h1 t0 t1 n) (within_mono h h2)
/-- A way from a stop begins with a departure there. -/
theorem brd_dep (ht : TimeFacts t) (k : Nat) : ∀ s tq : Int, Brd t change from_ at_ (k + 1) s tq → ∃ d, d ∈ depsI t from_ ∧ at_ ≤ d ∧ Brd t change from_ d (k + 1) s tq := by
  intro s tq h
  obtain ⟨x, hx, p, q, ta, s1, τ1, hqp, hq, hr, hp, hB⟩ := brd_split k s tq h
  obtain ⟨e1, e2⟩ := place_of ht hx hq
  have hl := (List.getElem?_eq_some_iff.1 hp).1
  rw [passT_len] at hl
  refine ⟨ta, depsI_mem.2 ⟨x, hx, ?_⟩, hr, ?_⟩
  · unfold dep1
    rw [if_pos (by omega), e1, e2]; rfl
  · have hop : Hop t (Brd t change from_ ta 0) s1 τ1 := hop_iff.2 ⟨x, hx, p, q, from_, ta, hqp, hq, ⟨rfl, Int.le_refl _⟩, hp⟩
    have := brd_comp (t := t) (change := change) (from_ := from_) (at_ := ta) (stop := s1) (r := τ1 + change) (j := 1) (fun tq hq => ⟨_, hop, hq⟩) k s tq hB
    rwa [Nat.add_comm] at this
theorem hop_dep (ht : TimeFacts t) (k : Nat) {s τ : Int} (h : Hop t (Brd t change from_ at_ k) s τ) : ∃ d, d ∈ depsI t from_ ∧ at_ ≤ d ∧ Hop t (Brd t change from_ d k) s τ := by
  cases k with
  | zero =>
    obtain ⟨x, hx, p, q, a, ta, hqp, hq, ⟨rfl, hr⟩, hp⟩ := hop_iff.1 h
    obtain ⟨e1, e2⟩ := place_of ht hx hq
    have hl := (List.getElem?_eq_some_iff.1 hp).1
    rw [passT_len] at hl
    refine ⟨ta, depsI_mem.2 ⟨x, hx, ?_⟩, hr, hop_iff.2 ⟨x, hx, p, q, a, ta, hqp, hq, ⟨rfl, Int.le_refl _⟩, hp⟩⟩
    unfold dep1
    rw [if_pos (by omega), e1, e2]; rfl
  | succ k =>
    obtain ⟨x, hx, p, q, a, ta, hqp, hq, hB, hp⟩ := hop_iff.1 h
    obtain ⟨d, hd, hle, hB2⟩ := brd_dep ht k a ta hB
    exact ⟨d, hd, hle, hop_iff.2 ⟨x, hx, p, q, a, ta, hqp, hq, hB2, hp⟩⟩
theorem brd_later (k : Nat) : ∀ {d : Int}, at_ ≤ d → ∀ s tq : Int, Brd t change from_ d k s tq → Brd t change from_ at_ k s tq := by
  induction k with
  | zero => rintro d hd s tq ⟨e, h⟩; exact ⟨e, by omega⟩
  | succ k ih => rintro d hd s tq ⟨τ, hH, hτ⟩; exact ⟨τ, hop_mono (ih hd) hH, hτ⟩
theorem within_later {m : Nat} {d s τ : Int} (hd : at_ ≤ d) (h : Within t change from_ d m s τ) : Within t change from_ at_ m s τ := by
  obtain ⟨k, hk, hH⟩ := h
  exact ⟨k, hk, hop_mono (brd_later k hd) hH⟩
/-- The earliest arrival is that of a departure. -/
theorem arrV_dep (ht : TimeFacts t) (hc : 0 ≤ change) (h0 : 0 ≤ from_) (h1 : from_ < t.Network.Stops.length) (t0 : 0 ≤ to) (t1 : to < t.Network.Stops.length) (m : Nat) (hv : arrV t change from_ at_ m to < never) :
    ∃ d, d ∈ depsI t from_ ∧ at_ ≤ d ∧ arrV t change from_ d m to ≤ arrV t change from_ at_ m to := by
  obtain ⟨k, hk, hH⟩ := isMin_att (arrV_min ht hc h0 h1 t0 t1 m) hv
  obtain ⟨d, hd, hle, hH2⟩ := hop_dep ht k hH
  exact ⟨d, hd, hle, isMin_le (arrV_min ht hc h0 h1 t0 t1 m) ⟨k, hk, hH2⟩⟩
theorem encN_iff {v b : Int} (h : v ≤ never) (h2 : v = never ∨ 0 ≤ v) (hb : b < never) : (0 ≤ encN v ∧ encN v ≤ b) ↔ v ≤ b := by
  unfold encN
  split
  · omega
  · omega
theorem arrV_rng (ht : TimeFacts t) (hc : 0 ≤ change) (h0 : 0 ≤ from_) (h1 : from_ < t.Network.Stops.length) (t0 : 0 ≤ to) (t1 : to < t.Network.Stops.length) (m : Nat) : arrV t change from_ at_ m to = never ∨ 0 ≤ arrV t change from_ at_ m to ∧ arrV t change from_ at_ m to ≤ 2099 := by
  rcases arrV_min ht hc h0 h1 t0 t1 (at_ := at_) m with ⟨e, _⟩ | ⟨h, _⟩
  · exact .inl e
  · have := within_bd ht h; exact .inr ⟨this.2.2.1, this.2.2.2⟩
end
/-! ### The latest departure -/
theorem find_desc {l : List Int} {P : Int → Bool} (h : Asc l) (v : Int) : l.reverse.find? P = some v ↔ v ∈ l ∧ P v = true ∧ ∀ u, u ∈ l → v < u → P u = false := by
  induction l with
  | nil => simp
  | cons x l ih =>
    unfold Asc at h
    rw [List.pairwise_cons] at h
    rw [List.reverse_cons, List.find?_append]
    have ih := ih h.2
    cases e : l.reverse.find? P with
    | some u =>
      simp only [Option.some_or]
      rw [← e, ih]
      have hu := (List.find?_eq_some_iff_append.1 e).1
      have hm : u ∈ l := List.mem_reverse.1 (List.mem_of_find?_eq_some e)
      constructor
      · rintro ⟨h1, h2, h3⟩
        refine ⟨by simp [h1], h2, fun w hw hlt => ?_⟩
        rcases List.mem_cons.1 hw with rfl | hw
        · have := h.1 v h1; omega
        · exact h3 w hw hlt
      · rintro ⟨h1, h2, h3⟩
        rcases List.mem_cons.1 h1 with rfl | h1
        · have := h3 u (by simp [hm]) (h.1 u hm); rw [hu] at this; cases this
        · exact ⟨h1, h2, fun w hw => h3 w (by simp [hw])⟩
    | none =>
      have hno : ∀ u, u ∈ l → P u = false := fun u hu => by
        have := List.find?_eq_none.1 e u (List.mem_reverse.2 hu)
        simpa using this
      simp only [Option.none_or]
      constructor
      · intro h1
        simp only [List.find?_cons, List.find?_nil] at h1
        split at h1
        · rename_i c
          simp only [Option.some.injEq] at h1
          subst h1
          refine ⟨by simp, c, fun u hu hlt => ?_⟩
          rcases List.mem_cons.1 hu with rfl | hu
          · omega
          · exact hno u hu
        · cases h1
      · rintro ⟨h1, h2, _⟩
        rcases List.mem_cons.1 h1 with rfl | h1
        · simp [h2]
        · rw [hno v h1] at h2; cases h2
theorem find_agree {l l' : List Int} {P P' : Int → Bool} (h : Asc l) (h' : Asc l') (hs : ∀ v, v ∈ l → v ∈ l') (hP : ∀ v, v ∈ l' → P v = P' v) (hd : ∀ v, v ∈ l' → P v = true → ∃ u, u ∈ l ∧ v ≤ u ∧ P u = true) :
    l.reverse.find? P = l'.reverse.find? P' := by
  cases e : l.reverse.find? P with
  | some v =>
    obtain ⟨h1, h2, h3⟩ := (find_desc h v).1 e
    refine ((find_desc h' v).2 ⟨hs v h1, by rw [← hP v (hs v h1)]; exact h2, fun u hu hlt => ?_⟩).symm
    rw [← hP u hu]
    cases c : P u with
    | false => rfl
    | true =>
      obtain ⟨u', hu', hle, hp⟩ := hd u hu c
      have := h3 u' hu' (by omega)
      rw [hp] at this; cases this
  | none =>
    cases e' : l'.reverse.find? P' with
    | none => rfl
    | some v =>
      obtain ⟨h1, h2, _⟩ := (find_desc h' v).1 e'
      rw [← hP v h1] at h2
      obtain ⟨u, hu, _, hp⟩ := hd v h1 h2
      have := List.find?_eq_none.1 e u (List.mem_reverse.2 hu)
      exact absurd hp this
def okPair (t : Timetable) (change from_ to : Int) : Bool := okAsked t change && inB from_ 0 ((t.Network.Stops.length : Int) - 1) && inB to 0 ((t.Network.Stops.length : Int) - 1) && decide (from_ ≠ to)
structure PairFacts (t : Timetable) (change from_ to : Int) : Prop where
  time : TimeFacts t
  rise : ∀ (i j : Nat) (x y : Trip), i < j → t.Trips[i]? = some x → t.Trips[j]? = some y → x.Id < y.Id
  ch : 0 ≤ change ∧ change ≤ 30
  fr : 0 ≤ from_ ∧ from_ < t.Network.Stops.length
  to_ : 0 ≤ to ∧ to < t.Network.Stops.length
  ne : from_ ≠ to
theorem pairFacts {t : Timetable} {change from_ to : Int} (h : okPair t change from_ to = true) : PairFacts t change from_ to := by
  simp only [okPair, okAsked, Bool.and_eq_true, inB_t, decide_eq_true_eq] at h
  obtain ⟨⟨⟨⟨h1, h2⟩, h3⟩, h4⟩, h5⟩ := h
  exact ⟨timeFacts h1, time_rise h1, h2, by omega, by omega, h5⟩
def latI (t : Timetable) (change from_ to by_ : Int) : Option Int := (depsI t from_).reverse.find? fun d => decide (arrV t change from_ d 4 to ≤ by_)
def latS (t : Timetable) (change from_ to by_ : Int) : Option Int := (depsS t from_).reverse.find? fun d => decide (0 ≤ gi (arrS t change from_ d 4) to) && decide (gi (arrS t change from_ d 4) to ≤ by_)
theorem lat_same {t : Timetable} {change from_ to by_ : Int} (h : PairFacts t change from_ to) (hb : by_ ≤ 1799) : latI t change from_ to by_ = latS t change from_ to by_ := by
  unfold latI latS
  refine find_agree (depsI_asc t from_) (depsS_asc t from_) (fun v hv => deps_sub hv) (fun v hv => ?_) (fun v hv hp => ?_)
  · have hd := deps_bd h.time hv
    rw [arr_same h.time h.ch.1 h.fr.1 h.fr.2 hd.1 hd.2 4 h.to_.1 h.to_.2 (Ne.symm h.ne)]
    have hr := arrV_rng h.time h.ch.1 h.fr.1 h.fr.2 h.to_.1 h.to_.2 (at_ := v) 4
    have hl := arrV_le h.time h.ch.1 h.fr.1 h.fr.2 h.to_.1 h.to_.2 (at_ := v) 4
    have := encN_iff (b := by_) hl (by omega) (by unfold never; omega)
    rw [← Bool.decide_and]
    exact decide_eq_decide.2 this.symm
  · simp only [decide_eq_true_eq] at hp
    obtain ⟨d, hd, hle, ha⟩ := arrV_dep h.time h.ch.1 h.fr.1 h.fr.2 h.to_.1 h.to_.2 4 (show arrV t change from_ v 4 to < never by unfold never; omega)
    exact ⟨d, hd, hle, by simp only [decide_eq_true_eq]; omega⟩
def latRes (t : Timetable) (change from_ to by_ : Int) : Int × Bool :=
  if okPair t change from_ to = true ∧ okTime by_ = true then (match latI t change from_ to by_ with | some d => (d, true) | none => (0, false)) else (0, false)
end Go.Proofs.Yteijofkkggifhaa
