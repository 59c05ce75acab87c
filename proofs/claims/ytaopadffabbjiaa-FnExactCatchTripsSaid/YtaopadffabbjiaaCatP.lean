/-
  CatchTrips: plain functions.
-/
import Derived.Test.YtaopadffabbjiaaChgP
import Derived.Test.YtaopadffabbjiaaStab
namespace Go.Proofs.Ytaopadffabbjiaa
open Go Go.RowKit
set_option linter.unusedVariables false
set_option maxRecDepth 100000
def catAt (t : Timetable) (row : List Int) (time : Int) (x : Trip) (p : Nat) : Option Connection :=
  if 0 ≤ row.getD ((lineAtT t x.Line).Stops.getD p 0).toNat 0 ∧ time + row.getD ((lineAtT t x.Line).Stops.getD p 0).toNat 0 ≤ timeAt t x p then some ⟨x.Id, (lineAtT t x.Line).Stops.getD p 0, p, timeAt t x p⟩ else none
def catOf (t : Timetable) (row : List Int) (time : Int) (x : Trip) : Option Connection := (List.range ((lineAtT t x.Line).Stops.length - 1)).findSome? (catAt t row time x)
def catL (t : Timetable) (row : List Int) (time : Int) : List Connection := t.Trips.filterMap (catOf t row time)
def okCat (t : Timetable) (l : List Walk) (stop time : Int) : Prop := okTimetable t = true ∧ okWalks t.Network.Stops.length l = true ∧ inB stop 0 ((t.Network.Stops.length : Int) - 1) = true ∧ okTime time = true
instance (t : Timetable) (l : List Walk) (stop time : Int) : Decidable (okCat t l stop time) := by unfold okCat; infer_instance
def catRes (t : Timetable) (l : List Walk) (stop time : Int) : List Connection × Bool :=
  if okCat t l stop time then (sortC (catL t ((fwT t.Network.Stops.length l).getD stop.toNat []) time), true) else ([], false)
section
variable {t : Timetable} {row : List Int} {time : Int} {x : Trip} {p s : Nat} {v τ : Int}
theorem catAt_no (h1 : (lineAtT t x.Line).Stops.getD p 0 = (s : Int)) (h2 : row.getD s 0 = v) (h3 : timeAt t x p = τ) (h : ¬ (0 ≤ v ∧ time + v ≤ τ)) : catAt t row time x p = none := by
  unfold catAt; rw [h1, Int.toNat_natCast, h2, h3, if_neg h]
theorem catAt_yes (h1 : (lineAtT t x.Line).Stops.getD p 0 = (s : Int)) (h2 : row.getD s 0 = v) (h3 : timeAt t x p = τ) (h : 0 ≤ v ∧ time + v ≤ τ) : catAt t row time x p = some ⟨x.Id, s, p, τ⟩ := by
  unfold catAt; rw [h1, Int.toNat_natCast, h2, h3, if_pos h]
theorem find_step {α : Type} {f : Nat → Option α} {n k : Nat} (hk : k < n) : ((List.range n).drop k).findSome? f = match f k with | some y => some y | none => ((List.range n).drop (k + 1)).findSome? f := by
  rw [drop_at (x := k) (by rw [List.getElem?_range hk]), List.findSome?_cons]
  cases f k <;> rfl
theorem cat_step {k : Nat} (hx : t.Trips[k]? = some x) : (t.Trips.take (k + 1)).filterMap (catOf t row time) = (t.Trips.take k).filterMap (catOf t row time) ++ (catOf t row time x).toList := by
  rw [List.take_add_one, hx, List.filterMap_append]
  simp only [Option.toList, List.filterMap_cons, List.filterMap_nil]
  cases catOf t row time x <;> rfl
theorem cat_len (k : Nat) : ((t.Trips.take k).filterMap (catOf t row time)).length ≤ k := by
  have h1 := List.length_filterMap_le (catOf t row time) (t.Trips.take k)
  have h2 : (t.Trips.take k).length ≤ k := by simp; omega
  omega
end
def encCn (c : Connection) : List Value := [.int .i64 c.Id, .int .i64 c.Stop, .int .i64 c.Place, .int .i64 c.Time]
instance encCnE : Enc 4 rConnection encCn where
  len := fun x => rfl
  one := fun x u h => by
    simp only [encCn, List.mem_cons, List.not_mem_nil, or_false] at h
    rcases h with rfl | rfl | rfl | rfl <;> rfl
  eq := fun h => h.1
  all := fun h W' => ⟨rfl, h.2⟩
theorem cells_4 (a b c d : Int) : ∀ u ∈ (#[Value.int .i64 a, Value.int .i64 b, Value.int .i64 c, Value.int .i64 d] : Array Value).toList, u.oneCell' = true := fun u h => encCnE.one ⟨a, b, c, d⟩ u h
theorem infoCn : (Try.prog.info? 101).map (fun i => (i.zero, i.size, i.bytes)) = some (some (.agg #[.int .i64 0, .int .i64 0, .int .i64 0, .int .i64 0]), 4, 32) := by kernel_rfl
theorem catOf_ok {t : Timetable} (tf : TimeFacts t) {row : List Int} {time : Int} {x : Trip} {i : Nat} (hx : t.Trips[i]? = some x) {c : Connection} (h : catOf t row time x = some c) : ConnectionOk c := by
  unfold catOf at h
  obtain ⟨p, hp, h2⟩ := List.exists_of_findSome?_eq_some h
  have hp' := List.mem_range.1 hp
  obtain ⟨s, _, hs, h3, ht0, ht1⟩ := stop_time tf hx (p := p) (by omega)
  have f := tf.trip i x hx
  have lf := lineAtT_facts tf.net f.line0 f.line1
  have h6 := lf.stops
  have h8 := tf.net.stops
  have hid := f.id
  unfold catAt at h2
  split at h2
  · cases h2
    refine ⟨?_, ?_, ?_, ?_⟩ <;> (simp only; unfold I64; omega)
  · cases h2
theorem catL_ok {t : Timetable} (tf : TimeFacts t) {row : List Int} {time : Int} {c : Connection} (h : c ∈ catL t row time) : ConnectionOk c := by
  obtain ⟨x, hx, h2⟩ := List.mem_filterMap.1 h
  obtain ⟨i, hi⟩ := List.getElem?_of_mem hx
  exact catOf_ok tf hi h2
theorem insC_mem {l : List Connection} {x c : Connection} (h : c ∈ insC l x) : c ∈ l ∨ c = x := by
  unfold insC at h
  rcases List.mem_append.1 h with h | h
  · exact .inl (List.mem_of_mem_take h)
  · rcases List.mem_cons.1 h with h | h
    · exact .inr h
    · exact .inl (List.mem_of_mem_drop h)
theorem sortC_mem {l : List Connection} {c : Connection} (h : c ∈ sortC l) : c ∈ l := by
  have key : ∀ (l a : List Connection), c ∈ l.foldl insC a → c ∈ a ∨ c ∈ l := by
    intro l
    induction l with
    | nil => intro a h; exact .inl h
    | cons x l ih =>
      intro a h
      rcases ih _ h with h | h
      · rcases insC_mem h with h | h
        · exact .inl h
        · subst h; exact .inr (by simp)
      · exact .inr (by simp [h])
  rcases key l [] h with h | h
  · simp at h
  · exact h
theorem catRes_len (t : Timetable) (l : List Walk) (stop time : Int) : (catRes t l stop time).1.length ≤ 12 := by
  unfold catRes
  split
  · rename_i h
    have h1 : t.Trips.length ≤ 12 := (timeFacts h.1).len
    rw [sortC_len]
    exact Nat.le_trans (List.length_filterMap_le _ _) h1
  · simp
end Go.Proofs.Ytaopadffabbjiaa
