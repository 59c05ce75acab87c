/-
  The first journey, in the reference (l8Search.extend).
-/
import Derived.Test.YteijofkkggifhaaFirstQ
import Derived.Test.YteijofkkggifhaaPair
import Derived.Test.YteijofkkggifhaaLegC
import Derived.Test.YteijofkkggifhaaOwnK
import Derived.Test.YteijofkkggifhaaTimeD
namespace Go.Proofs.Yteijofkkggifhaa
open Go Go.RowKit
set_option linter.unusedVariables false
set_option maxRecDepth 100000
set_option linter.unusedSimpArgs false
theorem findT_at {α β : Type} {f : α → Option β} {l : List α} {k : Nat} {x : α} (h : l[k]? = some x) : (l.drop k).findSome? f = (match f x with | some y => some y | none => (l.drop (k + 1)).findSome? f) := by
  rw [drop_at h, List.findSome?_cons]
  cases f x <;> rfl
theorem place_bd2 {t : Timetable} (x : Trip) (s : Int) : -1 ≤ placeT t x s ∧ (placeT t x s < (lineAtT t x.Line).Stops.length) := by
  have := idx_bd (intIs s) (lineAtT t x.Line).Stops
  unfold placeT; omega
theorem leg_ok {t : Timetable} (ht : TimeFacts t) {x : Trip} (hx : x ∈ t.Trips) {stop : Int} {s : Nat} (hs : I64 stop) (s8 : s ≤ 8) (h0 : 0 ≤ placeT t x stop) (h1 : placeT t x stop < placeT t x s) : LegOk (legOf t x stop s) ∧ 0 ≤ (legOf t x stop s).Arrive ∧ (legOf t x stop s).Arrive ≤ 2099 := by
  have g1 := stopsIn ht x hx _ (List.mem_of_getElem? (place_at h0))
  have g2 := stopsIn ht x hx _ (List.mem_of_getElem? (place_at (t := t) (x := x) (s := s) (by omega)))
  obtain ⟨i, hi⟩ := List.getElem?_of_mem hx
  have hid := (ht.trip i x hi).id
  simp only at g1 g2
  refine ⟨⟨?_, hs, ?_, ?_, ?_⟩, g2.2.2.1, g2.2.2.2⟩
  · show I64 x.Id; unfold I64; omega
  · show I64 (s : Int); unfold I64; omega
  · show I64 (timeAt t x (placeT t x stop).toNat); unfold I64; omega
  · show I64 (timeAt t x (placeT t x s).toNat); unfold I64; omega
theorem stop_at {t : Timetable} {x : Trip} {s : Int} {a : Nat} (h : placeT t x s = a) : (lineAtT t x.Line).Stops[a]? = some s := by
  unfold placeT at h
  obtain ⟨j, y, h2, h3, h1⟩ := idx_at (p := intIs s) (l := (lineAtT t x.Line).Stops) (by omega)
  have ej : j = a := by omega
  subst ej
  have hy : y = s := by simpa [intIs] using h3
  rw [h2, hy]
/-- The search's struct lies at block g. -/
def SearchAt (w0 : World) (g : Nat) (sA0 : Option Addr) (sn0 sc0 : Nat) (sA1 : Option Addr) (sn1 sc1 : Nat) (sA2 : Option Addr) (sn2 sc2 : Nat) (change to arrive : Int) : Prop :=
  ∀ W [Later w0 W] (j : Nat), W.cell? ⟨g, j, none⟩ = #[Value.slice sA0 sn0 sc0, .slice sA1 sn1 sc1, .slice sA2 sn2 sc2, .int .i64 change, .int .i64 to, .int .i64 arrive][j]?
theorem own_litF {W : World} {base g sz : Nat} {t : TypeId} (h : W.heap[g]? = some (.cells #[] t (0, 0))) (hb : base ≤ g) : W.ownsRow base t sz (.slice (some ⟨g, 0, none⟩) 0 0) 0 [] :=
  ⟨by simp, .inr ⟨g, 0, #[], rfl, hb, h, Nat.le_refl _, by unfold maxLen; omega, by simp, by simp⟩⟩
theorem legs_lit {W : World} {g : Nat} {t : TypeId} {x : Leg} (h : W.heap[g]? = some (.cells #[.int .i64 x.Trip, .int .i64 x.From, .int .i64 x.To, .int .i64 x.Depart, .int .i64 x.Arrive] t (0, 0))) (hi : LegOk x) : Legs W (some ⟨g, 0, none⟩) 1 1 [x] := by
  obtain ⟨fp, ho, _⟩ := OSl.of_blk (sz := 5) (r := rLeg) (l := [x]) (n := 1) (c := 1) (show Blk W g t _ from h) rfl (Nat.le_refl _) (by omega) (fun k y hy => by
    match k, hy with
    | 0, hy =>
      simp at hy; subst hy
      exact ⟨encLg x, rfl, fun j v hv => by simpa [encLg] using hv, fun W => ⟨rfl, hi⟩⟩)
  exact ho.reads
theorem own_someF {W : World} {base : Nat} {e : TypeId} {sz : Nat} {v : Value} {n : Nat} {xs : List Value} (h : W.ownsRow base e sz v n xs) (hn : 0 < n) : ∃ g c, v = .slice (some ⟨g, 0, none⟩) n c := by
  rcases h.2 with ⟨_, h0⟩ | ⟨g, cap, cur, h1, _⟩
  · omega
  · exact ⟨g, cap, h1⟩
theorem Blk.fiveL {w : World} {g : Nat} {t : TypeId} {a b c d e : Value} (h : Blk w g t #[a, b, c, d, e]) : (∀ W [Later w W], W.cell? ⟨g, 0, none⟩ = some a) ∧ (∀ W [Later w W], W.cell? ⟨g, 1, none⟩ = some b) ∧ (∀ W [Later w W], W.cell? ⟨g, 2, none⟩ = some c) ∧ (∀ W [Later w W], W.cell? ⟨g, 3, none⟩ = some d) ∧ (∀ W [Later w W], W.cell? ⟨g, 4, none⟩ = some e) :=
  ⟨fun W hW => (h.later hW).cell 0, fun W hW => (h.later hW).cell 1, fun W hW => (h.later hW).cell 2, fun W hW => (h.later hW).cell 3, fun W hW => (h.later hW).cell 4⟩
theorem Blk.put5L {w : World} {g : Nat} {t : TypeId} {a0 b0 c0 d0 e0 a b c d e : Value} (h : Blk w g t #[a0, b0, c0, d0, e0]) : Blk (((((w.setCell ⟨g, 0, none⟩ a).setCell ⟨g, 1, none⟩ b).setCell ⟨g, 2, none⟩ c).setCell ⟨g, 3, none⟩ d).setCell ⟨g, 4, none⟩ e) g t #[a, b, c, d, e] :=
  ((((h.set_ 0 a).set_ 1 b).set_ 2 c).set_ 3 d).set_ 4 e
theorem legs_enc {W : World} {A : Option Addr} {n c : Nat} {l : List Leg} (h : Legs W A n c l) : ∀ x, x ∈ l → LegOk x := by
  intro x hx
  obtain ⟨k, hk, rfl⟩ := List.getElem_of_mem hx
  obtain ⟨b, o, es, _, _, _, hr⟩ := h.el k _ (List.getElem?_eq_getElem hk)
  exact hr.2
def extF (t : Timetable) (change to arrive : Int) (k : Nat) (legs : List Leg) (stop at_ : Int) : Trip → Option (List Leg) := extTrip (ext t change to arrive k) t change to arrive k legs stop at_
def extG (t : Timetable) (change to arrive : Int) (k : Nat) (legs : List Leg) (stop : Int) (x : Trip) : Nat → Option (List Leg) := extStop (ext t change to arrive k) t change to arrive k legs stop x
section
variable {t : Timetable} {change to arrive : Int} {k : Nat} {legs : List Leg} {stop at_ : Int} {x : Trip} {s : Nat}
theorem ext_def : ext t change to arrive (k + 1) legs stop at_ = (t.Trips.findSome? (extF t change to arrive k legs stop at_)).getD [] := rfl
theorem extF_no1 (h : legs.any (tripIs x.Id) = true) : extF t change to arrive k legs stop at_ x = none := if_pos (.inl h)
theorem extF_no2 (h : placeT t x stop < 0) : extF t change to arrive k legs stop at_ x = none := if_pos (.inr (.inl h))
theorem extF_no3 (h : timeAt t x (placeT t x stop).toNat < at_) : extF t change to arrive k legs stop at_ x = none := if_pos (.inr (.inr h))
theorem extF_yes (h1 : legs.any (tripIs x.Id) = false) (h2 : ¬ placeT t x stop < 0) (h3 : ¬ timeAt t x (placeT t x stop).toNat < at_) : extF t change to arrive k legs stop at_ x = (List.range t.Network.Stops.length).findSome? (extG t change to arrive k legs stop x) := if_neg (by rw [h1]; rintro (h | h | h); cases h; exact h2 h; exact h3 h)
theorem extG_no1 (h : placeT t x s ≤ placeT t x stop) : extG t change to arrive k legs stop x s = none := if_pos (.inl h)
theorem extG_no2 (h : arrive < (legOf t x stop s).Arrive) : extG t change to arrive k legs stop x s = none := if_pos (.inr h)
theorem extG_last (hk : k = 0) (h1 : ¬ placeT t x s ≤ placeT t x stop) (h2 : ¬ arrive < (legOf t x stop s).Arrive) : extG t change to arrive k legs stop x s = if (s : Int) = to ∧ (legOf t x stop s).Arrive = arrive then some (legs ++ [legOf t x stop s]) else none := by
  unfold extG extStop; rw [if_neg (fun h => h.elim h1 h2), if_pos hk]
theorem extG_more (hk : ¬ k = 0) (h1 : ¬ placeT t x s ≤ placeT t x stop) (h2 : ¬ arrive < (legOf t x stop s).Arrive) : extG t change to arrive k legs stop x s = if ext t change to arrive k (legs ++ [legOf t x stop s]) s ((legOf t x stop s).Arrive + change) = [] then none else some (ext t change to arrive k (legs ++ [legOf t x stop s]) s ((legOf t x stop s).Arrive + change)) := by
  unfold extG extStop; rw [if_neg (fun h => h.elim h1 h2), if_neg hk]
end
/-- What the search returns. -/
def ExtC (k : Nat) : Prop := ∀ {w0 w1 w : World} {sA0 : Option Addr} {sn0 sc0 : Nat} {sA1 : Option Addr} {sn1 sc1 : Nat} {sA2 : Option Addr} {sn2 sc2 : Nat} {t : Timetable} (_ : TimetableAt w0 sA0 sn0 sc0 sA1 sn1 sc1 sA2 sn2 sc2 t) (_ : Later w0 w) (_ : TimeFacts t) {g : Nat} {change to arrive : Int} (_ : SearchAt w0 g sA0 sn0 sc0 sA1 sn1 sc1 sA2 sn2 sc2 change to arrive) (_ : 0 ≤ change) (_ : change ≤ 30)
    {b o n c : Nat} {legs : List Leg} (_ : Legs w1 (some ⟨b, o, none⟩) n c legs) (_ : Later w1 w) (_ : n + k ≤ 8) (stop at_ : Int) (_ : I64 stop) (m : Int) (_ : m = (k : Int) + 1),
    Calls Try.prog 140 #[.pointer (some ⟨g, 0, none⟩), .slice (some ⟨b, o, none⟩) n c, .int .i64 stop, .int .i64 at_, .int .i64 m] w (RetO 5 oLeg (ext t change to arrive (k + 1) legs stop at_) w)
end Go.Proofs.Yteijofkkggifhaa
