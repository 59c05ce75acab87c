/-
 FewestDuties: the least price of what is left, who drives behind whom, sorting by a key. Plain functions.
-/
import Derived.Test.YtknhebakebmlcaaGreatMem
namespace Go.Proofs.YtknhebakebmlcaaGreat
open Go Go.RowKit
set_option linter.unusedVariables false
set_option maxRecDepth 100000
set_option linter.unusedSimpArgs false
/-! ### Least values -/
/-- v is the least number of S (all of S are at least 0), or -1 if there is none. -/
def IsL (S : Int → Prop) (v : Int) : Prop := (v = -1 ∧ ∀ c, ¬ S c) ∨ (0 ≤ v ∧ S v ∧ ∀ c, S c → v ≤ c)
theorem IsL.uniq {S : Int → Prop} {v w : Int} (h : IsL S v) (k : IsL S w) : v = w := by
 rcases h with ⟨h1, h2⟩ | ⟨h1, h2, h3⟩ <;> rcases k with ⟨k1, k2⟩ | ⟨k1, k2, k3⟩
 ·omega
 ·exact absurd k2 (h2 _)
 ·exact absurd h2 (k2 _)
 ·have := h3 _ k2
  have := k3 _ h2
  omega
theorem IsL.congr {S T : Int → Prop} {v : Int} (h : IsL S v) (hs : ∀ c, S c ↔ T c) : IsL T v := by
 rcases h with ⟨h1, h2⟩ | ⟨h1, h2, h3⟩
 ·exact .inl ⟨h1, fun c hc => h2 c ((hs c).2 hc)⟩
 ·exact .inr ⟨h1, (hs _).1 h2, fun c hc => h3 c ((hs c).2 hc)⟩
theorem IsL.ge {S : Int → Prop} {v : Int} (h : IsL S v) : -1 ≤ v := by
 rcases h with ⟨h1, h2⟩ | ⟨h1, h2, h3⟩ <;> omega
theorem IsL.exists_ (S : Int → Prop) (h0 : ∀ c, S c → 0 ≤ c) : ∃ v, IsL S v := by
 by_cases h : ∃ c, S c
 ·obtain ⟨c, hc⟩ := h
  have key : ∀ n : Nat, ∀ c : Int, S c → c.toNat ≤ n → ∃ v, IsL S v := by
   intro n
   induction n with
   | zero =>
    intro c hc hn
    exact ⟨c, .inr ⟨h0 c hc, hc, fun d hd => by have := h0 d hd; omega⟩⟩
   | succ n ih =>
    intro c hc hn
    by_cases e : ∃ d, S d ∧ d < c
    ·obtain ⟨d, hd, hdc⟩ := e
     exact ih d hd (by have := h0 d hd; omega)
    ·exact ⟨c, .inr ⟨h0 c hc, hc, fun d hd => by
      apply Decidable.byContradiction
      intro hn
      exact e ⟨d, hd, by omega⟩⟩⟩
  exact key _ c hc (Nat.le_refl _)
 ·exact ⟨-1, .inl ⟨rfl, fun c hc => h ⟨c, hc⟩⟩⟩
def updZ (b s : Int) : Int := if 0 ≤ s ∧ (b < 0 ∨ s < b) then s else b
theorem IsL.upd {S T : Int → Prop} {b s : Int} (h : IsL S b) (k : IsL T s) : IsL (fun c => S c ∨ T c) (updZ b s) := by
 unfold updZ
 rcases k with ⟨k1, k2⟩ | ⟨k1, k2, k3⟩
 ·rw [if_neg (by omega)]
  refine h.congr fun c => ⟨.inl, fun hc => ?_⟩
  rcases hc with hc | hc
  ·exact hc
  ·exact absurd hc (k2 c)
 ·rcases h with ⟨h1, h2⟩ | ⟨h1, h2, h3⟩
  ·rw [if_pos (by omega)]
   refine .inr ⟨k1, .inr k2, fun c hc => ?_⟩
   rcases hc with hc | hc
   ·exact absurd hc (h2 c)
   ·exact k3 c hc
  ·by_cases e : s < b
   ·rw [if_pos (by omega)]
    refine .inr ⟨k1, .inr k2, fun c hc => ?_⟩
    rcases hc with hc | hc
    ·have := h3 c hc; omega
    ·exact k3 c hc
   ·rw [if_neg (by omega)]
    refine .inr ⟨h1, .inl h2, fun c hc => ?_⟩
    rcases hc with hc | hc
    ·exact h3 c hc
    ·have := k3 c hc; omega
/-- A step behind which the rest costs v. -/
def thenZ (g : Bool) (a v : Int) : Int := if g = true then (if v < 0 then -1 else a + v) else -1
theorem IsL.then_ {S : Int → Prop} {v a : Int} (g : Bool) (ha : g = true → 0 ≤ a) (h : IsL S v) : IsL (fun c => g = true ∧ ∃ c', S c' ∧ c = a + c') (thenZ g a v) := by
 unfold thenZ
 cases g with
 | false => exact .inl ⟨by simp, by simp⟩
 | true =>
  have ha := ha rfl
  rcases h with ⟨h1, h2⟩ | ⟨h1, h2, h3⟩
  ·rw [if_pos rfl, if_pos (by omega)]
   refine .inl ⟨rfl, ?_⟩
   rintro c ⟨_, c', hc, _⟩
   exact h2 c' hc
  ·rw [if_pos rfl, if_neg (by omega)]
   refine .inr ⟨by omega, ⟨rfl, v, h2, rfl⟩, ?_⟩
   rintro c ⟨_, c', hc, rfl⟩
   have := h3 c' hc
   omega
/-! ### Bits -/
theorem bit_or1 (D i j : Nat) : (D ||| 2 ^ i).testBit j = (D.testBit j || decide (i = j)) := by
 rw [Nat.testBit_or, Nat.testBit_two_pow]
theorem lt_or1 {D i : Nat} (h : D.testBit i = false) : D < D ||| 2 ^ i := by
 have h1 : D ≤ D ||| 2 ^ i := Nat.left_le_or
 rcases Nat.lt_or_ge D (D ||| 2 ^ i) with h2 | h2
 ·exact h2
 ·have h3 : D = D ||| 2 ^ i := Nat.le_antisymm h1 h2
  have h4 := bit_or1 D i i
  rw [← h3, h] at h4
  simp at h4
theorem or_comm2 (D i k : Nat) : D ||| 2 ^ i ||| 2 ^ k = D ||| 2 ^ k ||| 2 ^ i := by rw [Nat.or_assoc, Nat.or_comm (2 ^ i), ← Nat.or_assoc]
section
variable (m : Nat) (A : Nat → Int) (P : Nat → Nat → Int)
/-- The pieces that are not in D can be driven at the cost c; those in F have none behind them. -/
inductive Ach (F : Nat) : Nat → Int → Prop
 | full {D : Nat} : (∀ j, j < m → D.testBit j = true) → Ach F D 0
 | one {D i : Nat} {c : Int} : i < m → D.testBit i = false → 0 ≤ A i → Ach F (D ||| 2 ^ i) c → Ach F D (100000 + A i + c)
 | two {D i k : Nat} {c : Int} : i < m → k < m → i ≠ k → D.testBit i = false → D.testBit k = false → F.testBit i = false → 0 ≤ P i k → Ach F (D ||| 2 ^ i ||| 2 ^ k) c → Ach F D (100000 + P i k + c)
def FirstOne (F D u : Nat) (c : Int) : Prop := 0 ≤ A u ∧ ∃ c', Ach m A P F (D ||| 2 ^ u) c' ∧ c = 100000 + A u + c'
def FirstTwo (F D u k : Nat) (c : Int) : Prop := F.testBit u = false ∧ 0 ≤ P u k ∧ ∃ c', Ach m A P F (D ||| 2 ^ u ||| 2 ^ k) c' ∧ c = 100000 + P u k + c'
end
section
variable {m : Nat} {A : Nat → Int} {P : Nat → Nat → Int} {F F' D : Nat} {c : Int}
theorem Ach.nonneg (h : Ach m A P F D c) : 0 ≤ c := by
 induction h with
 | full h => exact Int.le_refl _
 | one _ _ h1 _ ih => omega
 | two _ _ _ _ _ _ h1 _ ih => omega
theorem Ach.congr (h : Ach m A P F D c) (hF : ∀ j, j < m → D.testBit j = false → F.testBit j = F'.testBit j) : Ach m A P F' D c := by
 induction h with
 | full h => exact .full h
 | one hi hd ha _ ih =>
  refine .one hi hd ha (ih fun j hj hb => hF j hj ?_)
  rw [bit_or1, Bool.or_eq_false_iff] at hb
  exact hb.1
 | two hi hk hik hdi hdk hf hp _ ih =>
  refine .two hi hk hik hdi hdk (by rw [← hF _ hi hdi]; exact hf) hp (ih fun j hj hb => hF j hj ?_)
  rw [bit_or1, bit_or1, Bool.or_eq_false_iff, Bool.or_eq_false_iff] at hb
  exact hb.1.1
/-- Any piece that is open may be told first. -/
theorem Ach.first (h : Ach m A P F D c) {u : Nat} (hu : u < m) (hb : D.testBit u = false) :
  FirstOne m A P F D u c ∨ ∃ k, k < m ∧ k ≠ u ∧ D.testBit k = false ∧ (FirstTwo m A P F D u k c ∨ FirstTwo m A P F D k u c) := by
 induction h with
 | full h => rw [h u hu] at hb; cases hb
 | @one D i c hi hd ha hr ih =>
  by_cases e : i = u
  ·subst e
   exact .inl ⟨ha, _, hr, rfl⟩
  ·rcases ih (by rw [bit_or1, hb]; simp [e]) with ⟨h1, c', h2, rfl⟩ | ⟨k, hk, hku, hkb, h⟩
   ·refine .inl ⟨h1, 100000 + A i + c', .one hi (by rw [bit_or1, hd]; simp; omega) ha (by rw [or_comm2]; exact h2), by omega⟩
   ·rw [bit_or1, Bool.or_eq_false_iff] at hkb
    have hki : i ≠ k := by simpa using hkb.2
    refine .inr ⟨k, hk, hku, hkb.1, ?_⟩
    rcases h with ⟨h1, h2, c', h3, rfl⟩ | ⟨h1, h2, c', h3, rfl⟩
    ·refine .inl ⟨h1, h2, 100000 + A i + c', .one hi (by rw [bit_or1, bit_or1, hd]; simp; omega) ha ?_, by omega⟩
     rw [or_comm2 (D ||| 2 ^ u), or_comm2 D u i]; exact h3
    ·refine .inr ⟨h1, h2, 100000 + A i + c', .one hi (by rw [bit_or1, bit_or1, hd]; simp; omega) ha ?_, by omega⟩
     rw [or_comm2 (D ||| 2 ^ k), or_comm2 D k i]; exact h3
 | @two D i j c hi hj hij hdi hdj hf hp hr ih =>
  by_cases e : i = u
  ·subst e
   exact .inr ⟨j, hj, fun h => hij h.symm, hdj, .inl ⟨hf, hp, _, hr, rfl⟩⟩
  by_cases e2 : j = u
  ·subst e2
   exact .inr ⟨i, hi, hij, hdi, .inr ⟨hf, hp, _, hr, rfl⟩⟩
  rcases ih (by rw [bit_or1, bit_or1, hb]; simp [e, e2]) with ⟨h1, c', h2, rfl⟩ | ⟨k, hk, hku, hkb, h⟩
  ·refine .inl ⟨h1, 100000 + P i j + c', .two hi hj hij (by rw [bit_or1, hdi]; simp; omega) (by rw [bit_or1, hdj]; simp; omega) hf hp ?_, by omega⟩
   rw [or_comm2 D u i, or_comm2 (D ||| 2 ^ i)]; exact h2
  ·rw [bit_or1, bit_or1, Bool.or_eq_false_iff, Bool.or_eq_false_iff] at hkb
   have hki : i ≠ k := by simpa using hkb.1.2
   have hkj : j ≠ k := by simpa using hkb.2
   refine .inr ⟨k, hk, hku, hkb.1.1, ?_⟩
   rcases h with ⟨h1, h2, c', h3, rfl⟩ | ⟨h1, h2, c', h3, rfl⟩
   ·refine .inl ⟨h1, h2, 100000 + P i j + c', .two hi hj hij (by rw [bit_or1, bit_or1, hdi]; simp; omega) (by rw [bit_or1, bit_or1, hdj]; simp; omega) hf hp ?_, by omega⟩
    rw [show D ||| 2 ^ u ||| 2 ^ k ||| 2 ^ i ||| 2 ^ j = D ||| 2 ^ i ||| 2 ^ j ||| 2 ^ u ||| 2 ^ k by ac_rfl]; exact h3
   ·refine .inr ⟨h1, h2, 100000 + P i j + c', .two hi hj hij (by rw [bit_or1, bit_or1, hdi]; simp; omega) (by rw [bit_or1, bit_or1, hdj]; simp; omega) hf hp ?_, by omega⟩
    rw [show D ||| 2 ^ k ||| 2 ^ u ||| 2 ^ i ||| 2 ^ j = D ||| 2 ^ i ||| 2 ^ j ||| 2 ^ k ||| 2 ^ u by ac_rfl]; exact h3
theorem FirstOne.ach {u : Nat} (h : FirstOne m A P F D u c) (hu : u < m) (hb : D.testBit u = false) : Ach m A P F D c := by
 obtain ⟨h1, c', h2, rfl⟩ := h
 exact .one hu hb h1 h2
theorem FirstTwo.ach {u k : Nat} (h : FirstTwo m A P F D u k c) (hu : u < m) (hk : k < m) (huk : u ≠ k) (hb : D.testBit u = false) (hbk : D.testBit k = false) : Ach m A P F D c := by
 obtain ⟨h0, h1, c', h2, rfl⟩ := h
 exact .two hu hk huk hb hbk h0 h1 h2
end
/-! ### The reference's costs -/
section
variable (m : Nat) (A : Nat → Int) (P : Nat → Nat → Int)
/-- The least cost of the pieces that are not in D. -/
noncomputable def mS (F D : Nat) : Int := Classical.choose (IsL.exists_ (Ach m A P F D) fun _ h => h.nonneg)
theorem mS_is (F D : Nat) : IsL (Ach m A P F D) (mS m A P F D) := Classical.choose_spec (IsL.exists_ (Ach m A P F D) fun _ h => h.nonneg)
noncomputable def aloneZ (F D u : Nat) : Int := thenZ (decide (0 ≤ A u)) (100000 + A u) (mS m A P F (D ||| 2 ^ u))
noncomputable def bothZ (F D i k : Nat) : Int := thenZ (!F.testBit i && decide (0 ≤ P i k)) (100000 + P i k) (mS m A P F (D ||| 2 ^ i ||| 2 ^ k))
noncomputable def czStep (F D u : Nat) (b : Int) (k : Nat) : Int := if D.testBit k = true then b else updZ (updZ b (bothZ m A P F D u k)) (bothZ m A P F D k u)
/-- The best of what can be behind or ahead of the piece u, and of the pieces u + 1 .. u + j. -/
noncomputable def mGo (F D u : Nat) : Nat → Int
 | 0 => aloneZ m A P F D u
 | j + 1 => czStep m A P F D u (mGo F D u j) (u + 1 + j)
end
section
variable {m : Nat} {A : Nat → Int} {P : Nat → Nat → Int} {F F' D : Nat} {c : Int}
theorem aloneZ_is (F D u : Nat) : IsL (FirstOne m A P F D u) (aloneZ m A P F D u) := by
 unfold aloneZ
 refine (IsL.then_ _ (by simp; omega) (mS_is m A P F (D ||| 2 ^ u))).congr fun c => ?_
 unfold FirstOne
 simp
theorem bothZ_is (F D i k : Nat) : IsL (FirstTwo m A P F D i k) (bothZ m A P F D i k) := by
 unfold bothZ
 refine (IsL.then_ _ (by simp; omega) (mS_is m A P F (D ||| 2 ^ i ||| 2 ^ k))).congr fun c => ?_
 unfold FirstTwo
 simp [and_assoc]
theorem mGo_is (F D u j : Nat) : IsL (fun c => FirstOne m A P F D u c ∨ ∃ k, u < k ∧ k < u + 1 + j ∧ D.testBit k = false ∧ (FirstTwo m A P F D u k c ∨ FirstTwo m A P F D k u c)) (mGo m A P F D u j) := by
 induction j with
 | zero =>
  refine (aloneZ_is F D u).congr fun c => ⟨.inl, ?_⟩
  rintro (h | ⟨k, h1, h2, _⟩)
  ·exact h
  ·omega
 | succ j ih =>
  simp only [mGo]
  unfold czStep
  cases hb : D.testBit (u + 1 + j) with
  | true =>
   rw [if_pos rfl]
   refine ih.congr fun c => ⟨?_, ?_⟩
   ·rintro (h | ⟨k, h1, h2, h3, h4⟩)
    ·exact .inl h
    ·exact .inr ⟨k, h1, by omega, h3, h4⟩
   ·rintro (h | ⟨k, h1, h2, h3, h4⟩)
    ·exact .inl h
    ·refine .inr ⟨k, h1, ?_, h3, h4⟩
     rcases Nat.lt_or_ge k (u + 1 + j) with h5 | h5
     ·exact h5
     ·rw [show k = u + 1 + j by omega, hb] at h3; cases h3
  | false =>
   rw [if_neg (by simp)]
   refine ((ih.upd (bothZ_is F D u (u + 1 + j))).upd (bothZ_is F D (u + 1 + j) u)).congr fun c => ⟨?_, ?_⟩
   ·rintro (((h | ⟨k, h1, h2, h3, h4⟩) | h) | h)
    ·exact .inl h
    ·exact .inr ⟨k, h1, by omega, h3, h4⟩
    ·exact .inr ⟨_, by omega, by omega, hb, .inl h⟩
    ·exact .inr ⟨_, by omega, by omega, hb, .inr h⟩
   ·rintro (h | ⟨k, h1, h2, h3, h4⟩)
    ·exact .inl (.inl (.inl h))
    ·rcases Nat.lt_or_ge k (u + 1 + j) with h5 | h5
     ·exact .inl (.inl (.inr ⟨k, h1, h5, h3, h4⟩))
     ·obtain rfl : k = u + 1 + j := by omega
      rcases h4 with h4 | h4
      ·exact .inl (.inr h4)
      ·exact .inr h4
theorem mS_full (h : ∀ j, j < m → D.testBit j = true) : mS m A P F D = 0 :=
 (mS_is m A P F D).uniq (.inr ⟨by omega, .full h, fun c hc => hc.nonneg⟩)
/-- The least cost, told from the first piece that is open. -/
theorem mS_go {u : Nat} (hu : u < m) (hb : D.testBit u = false) (hl : ∀ j, j < u → D.testBit j = true) : mGo m A P F D u (m - (u + 1)) = mS m A P F D := by
 refine ((mGo_is F D u (m - (u + 1))).congr fun c => ⟨?_, fun h => ?_⟩).uniq (mS_is m A P F D)
 ·rintro (h | ⟨k, h1, h2, h3, h4⟩)
  ·exact h.ach hu hb
  ·rcases h4 with h4 | h4
   ·exact h4.ach hu (by omega) (by omega) hb h3
   ·exact h4.ach (by omega) hu (by omega) h3 hb
 ·rcases h.first hu hb with h | ⟨k, h1, h2, h3, h4⟩
  ·exact .inl h
  ·refine .inr ⟨k, ?_, by omega, h3, h4⟩
   rcases Nat.lt_trichotomy k u with h5 | h5 | h5
   ·rw [hl k h5] at h3; cases h3
   ·exact absurd h5 h2
   ·exact h5
theorem mS_congr (hF : ∀ j, j < m → D.testBit j = false → F.testBit j = F'.testBit j) : mS m A P F D = mS m A P F' D :=
 ((mS_is m A P F D).congr fun c => ⟨fun h => h.congr hF, fun h => h.congr fun j hj hb => (hF j hj hb).symm⟩).uniq (mS_is m A P F' D)
end
/-! ### The program's prices -/
def nev : Int := 1073741824
def sumQ (f : Nat → Int) : Nat → Int
 | 0 => 0
 | n + 1 => sumQ f n + f n
def openV (g : Nat → Int) (u k : Nat) : Int := if u.testBit k = true then 0 else g k
theorem sumQ_congr {f g : Nat → Int} (n : Nat) (h : ∀ k, k < n → f k = g k) : sumQ f n = sumQ g n := by
 induction n with
 | zero => rfl
 | succ n ih => simp only [sumQ]; rw [ih fun k hk => h k (by omega), h n (by omega)]
theorem sumQ_take (g : Nat → Int) {u i : Nat} (hb : u.testBit i = false) (n : Nat) (hi : i < n) : sumQ (openV g u) n = g i + sumQ (openV g (u ||| 2 ^ i)) n := by
 induction n with
 | zero => omega
 | succ n ih =>
  simp only [sumQ]
  by_cases e : i = n
  ·subst e
   rw [sumQ_congr (g := openV g (u ||| 2 ^ i)) i fun k hk => by unfold openV; rw [bit_or1]; simp [show i ≠ k by omega]]
   unfold openV
   rw [hb, bit_or1]
   simp
   omega
  ·rw [ih (by omega)]
   have : openV g (u ||| 2 ^ i) n = openV g u n := by unfold openV; rw [bit_or1]; simp [e]
   rw [this]
   omega
theorem sumQ_zero {f : Nat → Int} (n : Nat) (h : ∀ k, k < n → f k = 0) : sumQ f n = 0 := by
 induction n with
 | zero => rfl
 | succ n ih => simp only [sumQ]; rw [ih fun k hk => h k (by omega), h n (by omega)]; rfl
def valP (b : Int × Int) : Int := if b.1 < nev then 100000 * b.1 + b.2 else -1
theorem valP_lt {b : Int × Int} (h : b.1 < nev) : valP b = 100000 * b.1 + b.2 := if_pos h
theorem valP_ge {b : Int × Int} (h : ¬ b.1 < nev) : valP b = -1 := if_neg h
structure PrIn (r : Nat) (b : Int × Int) : Prop where
 c0 : 0 ≤ b.1
 c1 : b.1 ≤ 8 * nev + r
 c2 : b.1 ≤ 8 + r ∨ nev ≤ b.1
 d0 : 0 ≤ b.2
 d1 : b.2 ≤ 4500 * (8 + r)
section
variable (m : Nat) (A : Nat → Int) (P : Nat → Nat → Int)
def sgP (k : Nat) : Int × Int := if 0 ≤ A k then (1, A k) else (nev, 0)
/-- Piece k may be behind piece i where those in u are in pairs. -/
def mayP (u i k : Nat) : Bool := !decide (i = k) && !u.testBit i && !u.testBit k && decide (0 ≤ P i k)
def pairP (rest : Nat → Int × Int) (i u k : Nat) : Int × Int := (1 + (rest (u ||| 2 ^ i ||| 2 ^ k)).1, P i k + (rest (u ||| 2 ^ i ||| 2 ^ k)).2)
def bStep (rest : Nat → Int × Int) (i u : Nat) (b : Int × Int) (k : Nat) : Int × Int :=
 if mayP P u i k = true ∧ ((pairP P rest i u k).1 < b.1 ∨ ((pairP P rest i u k).1 = b.1 ∧ (pairP P rest i u k).2 < b.2)) then pairP P rest i u k else b
def bI : Nat → Nat → Int × Int
 | 0, u => (sumQ (openV (fun k => (sgP A k).1) u) m, sumQ (openV (fun k => (sgP A k).2) u) m)
 | r + 1, u => (List.range m).foldl (bStep P (bI r) (m - (r + 1)) u) (bI r u)
end
section
variable {m : Nat} {A : Nat → Int} {P : Nat → Nat → Int}
theorem sg_or (A : Nat → Int) (k : Nat) : (0 ≤ A k ∧ sgP A k = (1, A k)) ∨ sgP A k = (nev, 0) := by
 unfold sgP
 split
 ·rename_i h; exact .inl ⟨h, rfl⟩
 ·exact .inr rfl
theorem sg_in (hA : ∀ k, A k ≤ 4500) (u n : Nat) : 0 ≤ sumQ (openV (fun k => (sgP A k).1) u) n ∧ sumQ (openV (fun k => (sgP A k).1) u) n ≤ n * nev ∧ (sumQ (openV (fun k => (sgP A k).1) u) n ≤ n ∨ nev ≤ sumQ (openV (fun k => (sgP A k).1) u) n) ∧ 0 ≤ sumQ (openV (fun k => (sgP A k).2) u) n ∧ sumQ (openV (fun k => (sgP A k).2) u) n ≤ 4500 * n := by
 induction n with
 | zero => simp [sumQ]
 | succ n ih =>
  obtain ⟨h1, h2, h3, h4, h5⟩ := ih
  simp only [sumQ]
  have e1 : ∃ x y, openV (fun k => (sgP A k).1) u n = x ∧ openV (fun k => (sgP A k).2) u n = y ∧ 0 ≤ x ∧ (x ≤ 1 ∨ x = nev) ∧ 0 ≤ y ∧ y ≤ 4500 := by
   refine ⟨_, _, rfl, rfl, ?_⟩
   unfold openV
   have := hA n
   by_cases c1 : u.testBit n = true
   ·rw [if_pos c1, if_pos c1]; omega
   ·rw [if_neg c1, if_neg c1]
    show 0 ≤ (sgP A n).1 ∧ ((sgP A n).1 ≤ 1 ∨ (sgP A n).1 = nev) ∧ 0 ≤ (sgP A n).2 ∧ (sgP A n).2 ≤ 4500
    rcases sg_or A n with ⟨h, e⟩ | h
    ·rw [e]; refine ⟨by simp, .inl (by simp), h, this⟩
    ·rw [h]; exact ⟨by simp [nev], .inr rfl, by simp, by simp⟩
  obtain ⟨x, y, ex, ey, q1, q2, q3, q4⟩ := e1
  rw [ex, ey]
  have hne : nev = 1073741824 := rfl
  have hmul : ((n + 1 : Nat) : Int) * nev = (n : Int) * nev + nev := by rw [hne]; omega
  rw [hmul]
  generalize (n : Int) * nev = z at *
  generalize sumQ (openV (fun k => (sgP A k).1) u) n = a at *
  generalize sumQ (openV (fun k => (sgP A k).2) u) n = b at *
  clear ex ey hA hmul
  rw [hne] at q2 h3 ⊢
  refine ⟨?_, ?_, ?_, ?_, ?_⟩ <;> omega
theorem bI0_in (hm : m ≤ 8) (hA : ∀ k, A k ≤ 4500) (u : Nat) : PrIn 0 (bI m A P 0 u) := by
 obtain ⟨h1, h2, h3, h4, h5⟩ := sg_in hA u m
 unfold nev at *
 refine ⟨h1, ?_, ?_, h4, ?_⟩ <;> simp only [bI, nev] <;> omega
theorem bI0_one {u i : Nat} (hi : i < m) (hb : u.testBit i = false) : bI m A P 0 u = ((sgP A i).1 + (bI m A P 0 (u ||| 2 ^ i)).1, (sgP A i).2 + (bI m A P 0 (u ||| 2 ^ i)).2) := by
 simp only [bI]
 rw [sumQ_take _ hb m hi, sumQ_take _ hb m hi]
theorem bI0_full {u : Nat} (h : ∀ j, j < m → u.testBit j = true) : bI m A P 0 u = (0, 0) := by
 simp only [bI]
 rw [sumQ_zero, sumQ_zero]
 ·intro k hk; unfold openV; rw [h k hk]; rfl
 ·intro k hk; unfold openV; rw [h k hk]; rfl
theorem fulls (m j : Nat) : (2 ^ m - 1).testBit j = decide (j < m) := Nat.testBit_two_pow_sub_one m j
theorem val_one {a : Int} (ha : 0 ≤ a) {b : Int × Int} {r : Nat} (hr : r ≤ 8) (hb : PrIn r b) (h : 0 ≤ valP b) : valP (1 + b.1, a + b.2) = 100000 + a + valP b := by
 obtain ⟨h1, h2, h3, h4, h5⟩ := hb
 unfold valP nev at *
 split at h
 ·rename_i c
  rw [if_pos (by simp only; omega), if_pos c]
  simp only
  omega
 ·omega
theorem bI0_ach (hm : m ≤ 8) (hA : ∀ k, A k ≤ 4500) {u : Nat} {c : Int} (h : Ach m A P (2 ^ m - 1) u c) : valP (bI m A P 0 u) = c := by
 induction h with
 | full h => rw [bI0_full h]; rfl
 | @one D i c hi hd ha hr ih =>
  rw [bI0_one hi hd]
  have e : sgP A i = (1, A i) := if_pos ha
  rw [e]
  simp only
  rw [val_one ha (Nat.zero_le _) (bI0_in hm hA _) (by rw [ih]; exact hr.nonneg), ih]
 | two hi hk hik hdi hdk hf hp hr ih =>
  rw [fulls, decide_eq_true hi] at hf
  cases hf
theorem bI0_conv (hm : m ≤ 8) (hA : ∀ k, A k ≤ 4500) (q : Nat) : ∀ {u : Nat}, u < 2 ^ m → 2 ^ m - u ≤ q → 0 ≤ valP (bI m A P 0 u) → Ach m A P (2 ^ m - 1) u (valP (bI m A P 0 u)) := by
 induction q with
 | zero => intro u h1 h2; omega
 | succ q ih =>
  intro u h1 h2 h3
  by_cases hf : ∀ j, j < m → u.testBit j = true
  ·rw [bI0_full hf]
   exact .full hf
  ·obtain ⟨i, hi⟩ := Classical.not_forall.1 hf
   have him : i < m := Classical.byContradiction fun e => hi fun h => absurd h e
   have hib : u.testBit i = false := by
    cases c : u.testBit i with
    | false => rfl
    | true => exact absurd (fun _ => c) hi
   have hlt := lt_or1 hib
   have hu2 : u ||| 2 ^ i < 2 ^ m := Nat.or_lt_two_pow h1 (Nat.pow_lt_pow_right (by omega) him)
   have hin := bI0_in (P := P) hm hA (u ||| 2 ^ i)
   have ha : 0 ≤ A i := by
    apply Decidable.byContradiction
    intro hn
    rw [bI0_one him hib, show sgP A i = (nev, 0) from if_neg hn] at h3
    obtain ⟨g1, _⟩ := hin
    unfold valP nev at h3
    rw [if_neg (by simp only; omega)] at h3
    omega
   have e : bI m A P 0 u = (1 + (bI m A P 0 (u ||| 2 ^ i)).1, A i + (bI m A P 0 (u ||| 2 ^ i)).2) := by rw [bI0_one him hib, show sgP A i = (1, A i) from if_pos ha]
   have h4 : 0 ≤ valP (bI m A P 0 (u ||| 2 ^ i)) := by
    rw [e] at h3
    obtain ⟨g1, g2, g3, g4, g5⟩ := hin
    unfold valP nev at *
    split at h3
    ·rename_i c
     simp only at c
     rw [if_pos (by omega)]
     omega
    ·omega
   rw [e, val_one ha (Nat.zero_le _) hin h4]
   exact .one him hib ha (ih hu2 (by omega) h4)
theorem val_or (b : Int × Int) (hb : 0 ≤ b.1 ∧ 0 ≤ b.2) : 0 ≤ valP b ∨ valP b = -1 := by
 unfold valP nev; split <;> omega
theorem bI0_is (hm : m ≤ 8) (hA : ∀ k, A k ≤ 4500) {u : Nat} (hu : u < 2 ^ m) : IsL (Ach m A P (2 ^ m - 1) u) (valP (bI m A P 0 u)) := by
 have hin := bI0_in (P := P) hm hA u
 rcases val_or _ ⟨hin.c0, hin.d0⟩ with h | h
 ·exact .inr ⟨h, bI0_conv hm hA _ hu (Nat.le_refl _) h, fun c hc => by rw [bI0_ach hm hA hc]; omega⟩
 ·refine .inl ⟨h, fun c hc => ?_⟩
  have h1 := bI0_ach hm hA hc
  have h2 := hc.nonneg
  omega
/-- One step of the program's choice is one of the least cost. -/
theorem step_val (hP : ∀ i k, P i k ≤ 4500) {r : Nat} (hr : r + 1 ≤ 8) {rest : Nat → Int × Int} {i u k : Nat} (hin : PrIn r (rest (u ||| 2 ^ i ||| 2 ^ k))) {b : Int × Int} (hb : PrIn (r + 1) b) :
  PrIn (r + 1) (bStep P rest i u b k) ∧ valP (bStep P rest i u b k) = updZ (valP b) (thenZ (mayP P u i k) (100000 + P i k) (valP (rest (u ||| 2 ^ i ||| 2 ^ k)))) := by
 unfold bStep pairP thenZ
 have hp := hP i k
 generalize rest (u ||| 2 ^ i ||| 2 ^ k) = c at *
 obtain ⟨g1, g2, g3, g4, g5⟩ := hin
 have hb2 := hb
 obtain ⟨b1, b2, b3, b4, b5⟩ := hb
 cases hm : mayP P u i k with
 | false =>
  rw [if_neg (by simp), if_neg (by simp)]
  exact ⟨hb2, by unfold updZ; rw [if_neg (by omega)]⟩
 | true =>
  have hp0 : 0 ≤ P i k := by
   unfold mayP at hm
   simp at hm
   exact hm.2
  have hne : nev = 1073741824 := rfl
  rw [hne] at g2 g3 b2 b3
  have hpr : 1 + c.1 < b.1 ∨ 1 + c.1 = b.1 ∧ P i k + c.2 < b.2 → PrIn (r + 1) (1 + c.1, P i k + c.2) := fun hlt => ⟨by simp only; omega, by simp only [hne]; omega, by simp only [hne]; omega, by simp only; omega, by simp only; omega⟩
  have hvp : c.1 < nev → valP (1 + c.1, P i k + c.2) = 100000 + P i k + (100000 * c.1 + c.2) := fun h => by
   rw [valP_lt (by simp only [hne] at *; omega)]; simp only; omega
  have hvp2 : ¬ c.1 < nev → valP (1 + c.1, P i k + c.2) = -1 := fun h => valP_ge (by simp only [hne] at *; omega)
  simp only [true_and, if_true]
  have hbv : valP b = 100000 * b.1 + b.2 ∨ (valP b = -1 ∧ ¬ b.1 < nev) := by
   by_cases c2 : b.1 < nev
   ·exact .inl (valP_lt c2)
   ·exact .inr ⟨valP_ge c2, c2⟩
  by_cases c1 : c.1 < nev
  ·have hv := hvp c1
   have ht : (if valP c < 0 then -1 else 100000 + P i k + valP c) = 100000 + P i k + (100000 * c.1 + c.2) := by rw [valP_lt c1, if_neg (by omega)]
   rw [ht]
   unfold updZ
   by_cases hlt : 1 + c.1 < b.1 ∨ 1 + c.1 = b.1 ∧ P i k + c.2 < b.2
   ·rw [if_pos hlt]
    refine ⟨hpr hlt, ?_⟩
    rw [hv, if_pos]
    refine ⟨by omega, ?_⟩
    rcases hbv with h | ⟨h, h2⟩
    ·right; omega
    ·left; omega
   ·rw [if_neg hlt]
    refine ⟨hb2, ?_⟩
    rw [if_neg]
    rintro ⟨_, h3⟩
    rcases hbv with h | ⟨h, h2⟩
    ·omega
    ·rw [hne] at c1 h2; omega
  ·have ht : (if valP c < 0 then -1 else 100000 + P i k + valP c) = -1 := by rw [valP_ge c1]; rfl
   rw [ht]
   have hu : updZ (valP b) (-1) = valP b := by unfold updZ; rw [if_neg (by omega)]
   rw [hu]
   by_cases hlt : 1 + c.1 < b.1 ∨ 1 + c.1 = b.1 ∧ P i k + c.2 < b.2
   ·rw [if_pos hlt]
    exact ⟨hpr hlt, by rw [hvp2 c1, valP_ge (by rw [hne] at *; omega)]⟩
   ·rw [if_neg hlt]
    exact ⟨hb2, rfl⟩
theorem fold_is (hP : ∀ i k, P i k ≤ 4500) {r : Nat} (hr : r + 1 ≤ 8) {F i u : Nat} {rest : Nat → Int × Int} (l : List Nat) (hin : ∀ k, k ∈ l → PrIn r (rest (u ||| 2 ^ i ||| 2 ^ k))) (his : ∀ k, k ∈ l → IsL (Ach m A P F (u ||| 2 ^ i ||| 2 ^ k)) (valP (rest (u ||| 2 ^ i ||| 2 ^ k)))) {S : Int → Prop} {b : Int × Int} (hb : PrIn (r + 1) b) (hS : IsL S (valP b)) :
  PrIn (r + 1) (l.foldl (bStep P rest i u) b) ∧ IsL (fun c => S c ∨ ∃ k, k ∈ l ∧ mayP P u i k = true ∧ ∃ c', Ach m A P F (u ||| 2 ^ i ||| 2 ^ k) c' ∧ c = 100000 + P i k + c') (valP (l.foldl (bStep P rest i u) b)) := by
 induction l generalizing b S with
 | nil => exact ⟨hb, hS.congr fun c => by simp⟩
 | cons k l ih =>
  simp only [List.foldl_cons]
  obtain ⟨h1, h2⟩ := step_val (P := P) hP hr (hin k (by simp)) hb
  have h3 := hS.upd (IsL.then_ (mayP P u i k) (a := 100000 + P i k) (fun e => by unfold mayP at e; simp at e; omega) (his k (by simp)))
  rw [← h2] at h3
  obtain ⟨h4, h5⟩ := ih (fun k' hk' => hin k' (by simp [hk'])) (fun k' hk' => his k' (by simp [hk'])) h1 h3
  refine ⟨h4, h5.congr fun c => ⟨?_, ?_⟩⟩
  ·rintro ((h | ⟨h6, h7⟩) | ⟨k', hk', h6⟩)
   ·exact .inl h
   ·exact .inr ⟨k, by simp, h6, h7⟩
   ·exact .inr ⟨k', by simp [hk'], h6⟩
  ·rintro (h | ⟨k', hk', h6⟩)
   ·exact .inl (.inl h)
   ·rcases List.mem_cons.1 hk' with rfl | hk'
    ·exact .inl (.inr h6)
    ·exact .inr ⟨k', hk', h6⟩
/-- The piece i either has none behind it or one. -/
theorem ach_step {i u : Nat} {c : Int} (hi : i < m) : Ach m A P (2 ^ i - 1) u c ↔ (Ach m A P (2 ^ (i + 1) - 1) u c ∨ ∃ k, k ∈ List.range m ∧ mayP P u i k = true ∧ ∃ c', Ach m A P (2 ^ (i + 1) - 1) (u ||| 2 ^ i ||| 2 ^ k) c' ∧ c = 100000 + P i k + c') := by
 have hcg : ∀ D : Nat, D.testBit i = true → ∀ j, j < m → D.testBit j = false → (2 ^ i - 1).testBit j = (2 ^ (i + 1) - 1).testBit j := by
  intro D hD j _ hj
  rw [fulls, fulls, decide_eq_decide]
  constructor
  ·omega
  ·intro h
   rcases Nat.lt_or_ge j i with h2 | h2
   ·exact h2
   ·rw [show j = i by omega, hD] at hj; cases hj
 have hback : ∀ {D : Nat} {c : Int}, Ach m A P (2 ^ (i + 1) - 1) D c → Ach m A P (2 ^ i - 1) D c := by
  intro D c h
  induction h with
  | full h => exact .full h
  | one hi hd ha _ ih => exact .one hi hd ha ih
  | two hi hk hik hdi hdk hf hp _ ih => exact .two hi hk hik hdi hdk (by rw [fulls] at hf ⊢; simp at hf ⊢; omega) hp ih
 constructor
 ·intro h
  cases hb : u.testBit i with
  | true => exact .inl (h.congr (hcg u hb))
  | false =>
   rcases h.first hi hb with ⟨h1, c', h2, rfl⟩ | ⟨k, hk, hki, hkb, h⟩
   ·exact .inl (.one hi hb h1 (h2.congr (hcg _ (by rw [bit_or1]; simp))))
   ·rcases h with ⟨h1, h2, c', h3, rfl⟩ | ⟨h1, h2, c', h3, rfl⟩
    ·refine .inr ⟨k, List.mem_range.2 hk, ?_, c', h3.congr (hcg _ (by rw [bit_or1, bit_or1]; simp)), rfl⟩
     unfold mayP
     rw [hb, hkb]
     simp
     omega
    ·refine .inl (.two hk hi hki hkb hb ?_ h2 (h3.congr (hcg _ (by rw [bit_or1]; simp))))
     rw [fulls] at h1 ⊢
     simp at h1 ⊢
     omega
 ·rintro (h | ⟨k, hk, hmay, c', h, rfl⟩)
  ·exact hback h
  ·unfold mayP at hmay
   simp only [Bool.and_eq_true, Bool.not_eq_true', decide_eq_true_eq, decide_eq_false_iff_not] at hmay
   obtain ⟨⟨⟨h1, h2⟩, h3⟩, h4⟩ := hmay
   exact .two hi (List.mem_range.1 hk) h1 h2 h3 (by rw [fulls]; simp) h4 (hback h)
/-- The program's best price is the least cost of what is left. -/
theorem bI_is (hm : m ≤ 8) (hA : ∀ k, A k ≤ 4500) (hP : ∀ i k, P i k ≤ 4500) (r : Nat) (hr : r ≤ m) : ∀ u, u < 2 ^ m → PrIn r (bI m A P r u) ∧ IsL (Ach m A P (2 ^ (m - r) - 1) u) (valP (bI m A P r u)) := by
 induction r with
 | zero => exact fun u hu => ⟨bI0_in hm hA u, bI0_is hm hA hu⟩
 | succ r ih =>
  intro u hu
  have ih := ih (by omega)
  have h0 := ih u hu
  have hi : m - (r + 1) < m := by omega
  have hu2 : ∀ k, k ∈ List.range m → u ||| 2 ^ (m - (r + 1)) ||| 2 ^ k < 2 ^ m := fun k hk =>
   Nat.or_lt_two_pow (Nat.or_lt_two_pow hu (Nat.pow_lt_pow_right (by omega) hi)) (Nat.pow_lt_pow_right (by omega) (List.mem_range.1 hk))
  have hb : PrIn (r + 1) (bI m A P r u) := by
   obtain ⟨g1, g2, g3, g4, g5⟩ := h0.1
   unfold nev at *
   exact ⟨g1, by unfold nev; omega, by unfold nev; omega, g4, by omega⟩
  simp only [bI]
  obtain ⟨h1, h2⟩ := fold_is (m := m) (A := A) hP (show r + 1 ≤ 8 by omega) (F := 2 ^ (m - r) - 1) (i := m - (r + 1)) (u := u) (rest := bI m A P r) (List.range m) (fun k hk => (ih _ (hu2 k hk)).1) (fun k hk => (ih _ (hu2 k hk)).2) hb h0.2
  refine ⟨h1, h2.congr fun c => ?_⟩
  rw [ach_step hi, show m - (r + 1) + 1 = m - r by omega]
end
/-! ### What is chosen -/
theorem mS_val {m : Nat} {A : Nat → Int} {P : Nat → Nat → Int} (hm : m ≤ 8) (hA : ∀ k, A k ≤ 4500) (hP : ∀ i k, P i k ≤ 4500) {r : Nat} (hr : r ≤ m) {F u : Nat} (hu : u < 2 ^ m) (hF : ∀ j, j < m → u.testBit j = false → F.testBit j = decide (j < m - r)) :
  mS m A P F u = valP (bI m A P r u) := by
 rw [mS_congr (F' := 2 ^ (m - r) - 1) fun j hj hb => by rw [hF j hj hb, fulls]]
 exact (mS_is m A P _ u).uniq (bI_is hm hA hP r hr u hu).2
theorem val_nev {b : Int × Int} (h : 0 ≤ valP b) : b.1 < nev := by
 apply Decidable.byContradiction
 intro c
 rw [valP_ge c] at h
 omega
section
variable (m : Nat) (A : Nat → Int) (P : Nat → Nat → Int)
def hitI (r u k : Nat) : Bool := mayP P u (m - (r + 1)) k && decide (pairP P (bI m A P r) (m - (r + 1)) u k = bI m A P (r + 1) u)
/-- The piece behind the piece m - (r + 1): the first that is best, or none. -/
def behO (r u : Nat) : Option Nat := (List.range m).find? (hitI m A P r u)
def markP (i u : Nat) : Option Nat → Nat
 | none => u
 | some k => u ||| 2 ^ i ||| 2 ^ k
def behGo : Nat → Nat → List (Option Nat)
 | 0, _ => []
 | r + 1, u => behO m A P r u :: behGo r (markP (m - (r + 1)) u (behO m A P r u))
end
section
variable {m : Nat} {A : Nat → Int} {P : Nat → Nat → Int}
theorem mayP_t {u i k : Nat} (h : mayP P u i k = true) : i ≠ k ∧ u.testBit i = false ∧ u.testBit k = false ∧ 0 ≤ P i k := by
 unfold mayP at h
 simp only [Bool.and_eq_true, Bool.not_eq_true', decide_eq_true_eq, decide_eq_false_iff_not] at h
 exact ⟨h.1.1.1, h.1.1.2, h.1.2, h.2⟩
theorem or_lt2 {u i k : Nat} (hu : u < 2 ^ m) (hi : i < m) (hk : k < m) : u ||| 2 ^ i ||| 2 ^ k < 2 ^ m :=
 Nat.or_lt_two_pow (Nat.or_lt_two_pow hu (Nat.pow_lt_pow_right (by omega) hi)) (Nat.pow_lt_pow_right (by omega) hk)
/-- Both choose alike. -/
theorem hit_same (hm : m ≤ 8) (hA : ∀ k, A k ≤ 4500) (hP : ∀ i k, P i k ≤ 4500) {r : Nat} (hr : r + 1 ≤ m) {F u k : Nat} (hu : u < 2 ^ m) (hF : ∀ j, j < m → u.testBit j = false → F.testBit j = decide (j < m - (r + 1))) (h0 : 0 ≤ valP (bI m A P (r + 1) u)) (hk : k < m) (hki : m - (r + 1) ≠ k) (hbi : u.testBit (m - (r + 1)) = false) (hbk : u.testBit k = false) :
  bothZ m A P F u (m - (r + 1)) k = valP (bI m A P (r + 1) u) ↔ hitI m A P r u k = true := by
 have hi : m - (r + 1) < m := by omega
 have hu2 := or_lt2 hu hi hk
 obtain ⟨hin, _⟩ := bI_is hm hA hP r (by omega) _ hu2
 obtain ⟨hin1, _⟩ := bI_is hm hA hP (r + 1) (by omega) _ hu
 have hbn := val_nev h0
 have hfi : F.testBit (m - (r + 1)) = false := by rw [hF _ hi hbi]; simp
 have hrest : mS m A P F (u ||| 2 ^ (m - (r + 1)) ||| 2 ^ k) = valP (bI m A P r (u ||| 2 ^ (m - (r + 1)) ||| 2 ^ k)) := by
  refine mS_val hm hA hP (by omega) hu2 fun j hj hb => ?_
  rw [bit_or1, bit_or1, Bool.or_eq_false_iff, Bool.or_eq_false_iff] at hb
  rw [hF j hj hb.1.1, decide_eq_decide]
  have := hb.1.2
  simp at this
  omega
 unfold bothZ hitI mayP pairP
 rw [hrest, hfi, hbi, hbk]
 simp only [Bool.not_false, Bool.true_and, Bool.and_true]
 rw [show decide (m - (r + 1) = k) = false from decide_eq_false hki]
 simp only [Bool.not_false, Bool.true_and]
 generalize bI m A P r (u ||| 2 ^ (m - (r + 1)) ||| 2 ^ k) = c at *
 generalize bI m A P (r + 1) u = b at *
 have hp := hP (m - (r + 1)) k
 generalize P (m - (r + 1)) k = p at *
 unfold thenZ
 by_cases h : 0 ≤ p
 ·rw [decide_eq_true h]
  simp only [Bool.true_and, if_true, decide_eq_true_eq]
  have gin := hin
  obtain ⟨g1, g2, g3, g4, g5⟩ := hin
  obtain ⟨k1, k2, k3, k4, k5⟩ := hin1
  by_cases hc : c.1 < nev
  ·rw [valP_lt hc, if_neg (by omega), valP_lt hbn]
   obtain ⟨b1, b2⟩ := b
   simp only [Prod.mk.injEq] at *
   constructor
   ·intro e; constructor <;> omega
   ·rintro ⟨e1, e2⟩; omega
  ·rw [valP_ge hc, if_pos (by omega)]
   constructor
   ·intro e; omega
   ·intro e
    rw [← e] at hbn
    simp only at hbn
    omega
 ·rw [decide_eq_false h]
  simp only [Bool.false_and]
  constructor
  ·intro e; simp at e; omega
  ·intro e; cases e
theorem beh_some {r u k : Nat} (h : behO m A P r u = some k) : k < m ∧ mayP P u (m - (r + 1)) k = true ∧ pairP P (bI m A P r) (m - (r + 1)) u k = bI m A P (r + 1) u := by
 unfold behO at h
 have h1 := List.mem_of_find?_eq_some h
 have h2 := List.find?_some h
 simp only [hitI, Bool.and_eq_true, decide_eq_true_eq] at h2
 exact ⟨List.mem_range.1 h1, h2.1, h2.2⟩
theorem bstep_att {rest : Nat → Int × Int} {i u : Nat} (l : List Nat) (b : Int × Int) :
  l.foldl (bStep P rest i u) b = b ∨ ∃ k, k ∈ l ∧ mayP P u i k = true ∧ l.foldl (bStep P rest i u) b = pairP P rest i u k := by
 induction l generalizing b with
 | nil => exact .inl rfl
 | cons a l ih =>
  simp only [List.foldl_cons]
  rcases ih (bStep P rest i u b a) with h | ⟨a', ha, hm, h⟩
  ·rw [h]
   unfold bStep
   split
   ·rename_i c; exact .inr ⟨a, by simp, c.1, rfl⟩
   ·exact .inl rfl
  ·exact .inr ⟨a', by simp [ha], hm, h⟩
theorem beh_none {r u : Nat} (h : behO m A P r u = none) : bI m A P (r + 1) u = bI m A P r u := by
 simp only [bI]
 rcases bstep_att (P := P) (rest := bI m A P r) (i := m - (r + 1)) (u := u) (List.range m) (bI m A P r u) with e | ⟨a, ha, hm, e⟩
 ·exact e
 ·have := List.find?_eq_none.1 h a ha
  refine absurd ?_ this
  unfold hitI
  rw [hm]
  simp only [Bool.true_and, decide_eq_true_eq]
  simp only [bI]
  exact e.symm
/-- What is left behind a step costs what the step leaves. -/
theorem beh_left (hm : m ≤ 8) (hA : ∀ k, A k ≤ 4500) (hP : ∀ i k, P i k ≤ 4500) {r u k : Nat} (hr : r + 1 ≤ m) (hu : u < 2 ^ m) (h : behO m A P r u = some k) (h0 : 0 ≤ valP (bI m A P (r + 1) u)) :
  valP (bI m A P r (u ||| 2 ^ (m - (r + 1)) ||| 2 ^ k)) = valP (bI m A P (r + 1) u) - 100000 - P (m - (r + 1)) k ∧ 0 ≤ valP (bI m A P r (u ||| 2 ^ (m - (r + 1)) ||| 2 ^ k)) := by
 obtain ⟨h1, h2, h3⟩ := beh_some h
 obtain ⟨hin, _⟩ := bI_is hm hA hP r (by omega) _ (or_lt2 hu (show m - (r + 1) < m by omega) h1)
 have hbn := val_nev h0
 rw [← h3] at hbn h0 ⊢
 unfold pairP at *
 generalize bI m A P r (u ||| 2 ^ (m - (r + 1)) ||| 2 ^ k) = c at *
 obtain ⟨g1, g2, g3, g4, g5⟩ := hin
 simp only at hbn
 rw [valP_lt (b := (1 + c.1, P (m - (r + 1)) k + c.2)) (by simp only; omega)]
 rw [valP_lt (b := c) (by omega)]
 simp only
 constructor <;> omega
theorem behGo_len (r u : Nat) : (behGo m A P r u).length = r := by
 induction r generalizing u with
 | zero => rfl
 | succ r ih => simp [behGo, ih]
end
/-! ### Who is in pairs -/
/-- The pieces that are in pairs behind the list b of what is behind the pieces from i on. -/
def usedP : Nat → List (Option Nat) → Nat → Nat
 | _, [], u => u
 | i, o :: b, u => usedP (i + 1) b (markP i u o)
theorem usedP_bit (b : List (Option Nat)) : ∀ (i u j : Nat), (usedP i b u).testBit j = true ↔ (u.testBit j = true ∨ ∃ t k, b[t]? = some (some k) ∧ (j = i + t ∨ j = k)) := by
 induction b with
 | nil => intro i u j; simp [usedP]
 | cons o b ih =>
  intro i u j
  simp only [usedP]
  rw [ih]
  constructor
  ·rintro (h | ⟨t, k, h1, h2⟩)
   ·cases o with
    | none => exact .inl h
    | some k =>
     simp only [markP] at h
     rw [bit_or1, bit_or1, Bool.or_eq_true, Bool.or_eq_true] at h
     rcases h with (h | h) | h
     ·exact .inl h
     ·exact .inr ⟨0, k, rfl, .inl (by simp at h; omega)⟩
     ·exact .inr ⟨0, k, rfl, .inr (by simp at h; omega)⟩
   ·exact .inr ⟨t + 1, k, by simpa using h1, by omega⟩
  ·rintro (h | ⟨t, k, h1, h2⟩)
   ·left
    cases o with
    | none => exact h
    | some k => simp only [markP]; rw [bit_or1, bit_or1, h]; rfl
   ·cases t with
    | zero =>
     simp at h1
     subst h1
     left
     simp only [markP]
     rw [bit_or1, bit_or1]
     rcases h2 with h2 | h2
     ·simp [h2]
     ·simp [h2]
    | succ t => exact .inr ⟨t, k, by simpa using h1, by omega⟩
theorem behGo_lt {m : Nat} {A : Nat → Int} {P : Nat → Nat → Int} (r u : Nat) : ∀ t k : Nat, (behGo m A P r u)[t]? = some (some k) → k < m := by
 induction r generalizing u with
 | zero => intro t k h; simp [behGo] at h
 | succ r ih =>
  intro t k h
  simp only [behGo] at h
  cases t with
  | zero => simp at h; exact (beh_some h).1
  | succ t => exact ih _ t k (by simpa using h)
/-! ### The list of duties -/
section
variable {α : Type}
/-- The pairs, from the piece i on. -/
def pairsGo (pc : Nat → α) : Nat → List (Option Nat) → List (List α)
 | _, [] => []
 | i, none :: b => pairsGo pc (i + 1) b
 | i, some k :: b => [pc i, pc k] :: pairsGo pc (i + 1) b
/-- The pieces n - q .. n - 1 that are in no pair. -/
def aloneGo (pc : Nat → α) (uf : Nat) : Nat → Nat → List (List α)
 | _, 0 => []
 | i, q + 1 => if uf.testBit i = true then aloneGo pc uf (i + 1) q else [pc i] :: aloneGo pc uf (i + 1) q
/-- The reference's order: one duty for each first piece. -/
def mixGo (pc : Nat → α) (uf : Nat) : Nat → List (Option Nat) → List (List α)
 | _, [] => []
 | i, some k :: b => [pc i, pc k] :: mixGo pc uf (i + 1) b
 | i, none :: b => if uf.testBit i = true then mixGo pc uf (i + 1) b else [pc i] :: mixGo pc uf (i + 1) b
theorem mix_perm (pc : Nat → α) (uf : Nat) (b : List (Option Nat)) : ∀ i, (∀ (t k : Nat), b[t]? = some (some k) → uf.testBit (i + t) = true) → (mixGo pc uf i b).Perm (pairsGo pc i b ++ aloneGo pc uf i b.length) := by
 induction b with
 | nil => intro i _; exact List.Perm.refl _
 | cons o b ih =>
  intro i h
  have ih := ih (i + 1) fun t k ht => by rw [show i + 1 + t = i + (t + 1) by omega]; exact h (t + 1) k (by simpa using ht)
  cases o with
  | some k =>
   simp only [mixGo, pairsGo, aloneGo, List.length_cons, List.cons_append]
   rw [if_pos (by simpa using h 0 k rfl)]
   exact ih.cons _
  | none =>
   simp only [mixGo, pairsGo, aloneGo, List.length_cons]
   split
   ·exact ih
   ·exact (ih.cons _).trans List.perm_middle.symm
/-! ### Sorted by a key -/
variable (key : α → Int)
/-- Where x is put among the first j of l: behind the last that is not greater. -/
def posK (l : List α) (x : α) : Nat → Nat
 | 0 => 0
 | j + 1 => match l[j]? with
  | none => 0
  | some y => if key x < key y then posK l x j else j + 1
def insK (l : List α) (x : α) : List α := l.take (posK key l x l.length) ++ x :: l.drop (posK key l x l.length)
variable {key}
theorem posK_at {l : List α} {x y : α} {j : Nat} (h : l[j]? = some y) : posK key l x (j + 1) = if key x < key y then posK key l x j else j + 1 := by
 simp only [posK]; rw [h]
theorem posK_le (l : List α) (x : α) : ∀ j, posK key l x j ≤ j
 | 0 => Nat.le_refl _
 | j + 1 => by
  simp only [posK]
  split
  ·omega
  ·split
   ·have := posK_le l x j; omega
   ·exact Nat.le_refl _
theorem insK_perm (l : List α) (x : α) : (insK key l x).Perm (x :: l) := by
 unfold insK
 refine List.perm_middle.trans ?_
 rw [List.take_append_drop]
theorem insK_len (l : List α) (x : α) : (insK key l x).length = l.length + 1 := by rw [(insK_perm l x).length_eq]; rfl
theorem posK_hi {l : List α} {x : α} : ∀ {j : Nat}, j ≤ l.length → ∀ (t : Nat) (y : α), posK key l x j ≤ t → t < j → l[t]? = some y → key x < key y := by
 intro j
 induction j with
 | zero => intro _ t y _ h; omega
 | succ j ih =>
  intro hj t y h1 h2 h3
  obtain ⟨z, hz⟩ : ∃ z, l[j]? = some z := ⟨_, List.getElem?_eq_getElem (by omega)⟩
  rw [posK_at hz] at h1
  split at h1
  ·rename_i c
   rcases Nat.lt_or_ge t j with h4 | h4
   ·exact ih (by omega) t y h1 h4 h3
   ·obtain rfl : t = j := by omega
    rw [hz] at h3
    cases h3
    exact c
  ·omega
theorem posK_lo {l : List α} {x : α} : ∀ {j : Nat}, j ≤ l.length → posK key l x j = 0 ∨ ∃ (t : Nat) (y : α), posK key l x j = t + 1 ∧ l[t]? = some y ∧ key y ≤ key x := by
 intro j
 induction j with
 | zero => intro _; exact .inl rfl
 | succ j ih =>
  intro hj
  obtain ⟨z, hz⟩ : ∃ z, l[j]? = some z := ⟨_, List.getElem?_eq_getElem (by omega)⟩
  rw [posK_at hz]
  split
  ·exact ih (by omega)
  ·exact .inr ⟨j, z, rfl, hz, by omega⟩
/-- Ascending keys. -/
def Asc (key : α → Int) (l : List α) : Prop := l.Pairwise fun a b => key a ≤ key b
theorem insK_asc {l : List α} (h : Asc key l) (x : α) : Asc key (insK key l x) := by
 unfold Asc insK at *
 have hle := posK_le (key := key) l x l.length
 rw [List.pairwise_append]
 have h0 := h
 rw [← List.take_append_drop (posK key l x l.length) l, List.pairwise_append] at h
 obtain ⟨h1, h2, h3⟩ := h
 have hx : ∀ y, y ∈ l.take (posK key l x l.length) → key y ≤ key x := by
  intro y hy
  rcases posK_lo (key := key) (l := l) (x := x) (Nat.le_refl _) with e | ⟨t, z, e, hz, hzx⟩
  ·rw [e] at hy; simp at hy
  ·obtain ⟨s, hs⟩ := List.getElem?_of_mem hy
   rw [List.getElem?_take] at hs
   split at hs
   ·rename_i hst
    rw [e] at hst
    rcases Nat.lt_or_ge s t with h4 | h4
    ·have := (List.pairwise_iff_getElem.1 h0) s t (List.getElem?_eq_some_iff.1 hs).1 (List.getElem?_eq_some_iff.1 hz).1 h4
     rw [(List.getElem?_eq_some_iff.1 hs).2, (List.getElem?_eq_some_iff.1 hz).2] at this
     omega
    ·obtain rfl : s = t := by omega
     rw [hs] at hz
     cases hz
     exact hzx
   ·cases hs
 have hy : ∀ y, y ∈ l.drop (posK key l x l.length) → key x < key y := by
  intro y hy
  obtain ⟨s, hs⟩ := List.getElem?_of_mem hy
  rw [List.getElem?_drop] at hs
  exact posK_hi (key := key) (Nat.le_refl _) _ y (by omega) (List.getElem?_eq_some_iff.1 hs).1 hs
 refine ⟨h1, List.pairwise_cons.2 ⟨fun y h => Int.le_of_lt (hy y h), h2⟩, fun a ha b hb => ?_⟩
 rcases List.mem_cons.1 hb with rfl | hb
 ·exact hx a ha
 ·exact h3 a ha b hb
def sortK (key : α → Int) (l : List α) : List α := l.foldl (insK key) []
theorem sortK_go (l : List α) : ∀ a : List α, Asc key a → Asc key (l.foldl (insK key) a) ∧ (l.foldl (insK key) a).Perm (a ++ l) := by
 induction l with
 | nil => intro a h; exact ⟨h, by simp⟩
 | cons x l ih =>
  intro a h
  obtain ⟨h1, h2⟩ := ih _ (insK_asc h x)
  refine ⟨h1, h2.trans ?_⟩
  exact ((insK_perm a x).append_right l).trans List.perm_middle.symm
theorem sortK_asc (l : List α) : Asc key (sortK key l) := (sortK_go l [] List.Pairwise.nil).1
theorem sortK_perm (l : List α) : (sortK key l).Perm l := (sortK_go (key := key) l [] List.Pairwise.nil).2
theorem sortK_len (l : List α) : (sortK key l).length = l.length := (sortK_perm l).length_eq
theorem sortK_step {L : List α} {i : Nat} {x : α} (h : L[i]? = some x) : sortK key (L.take (i + 1)) = insK key (sortK key (L.take i)) x := by
 unfold sortK; rw [List.take_add_one, h, List.foldl_append]; rfl
theorem sortK_snoc (l : List α) (x : α) : sortK key (l ++ [x]) = insK key (sortK key l) x := by
 unfold sortK; rw [List.foldl_append]; rfl
/-- Two lists of the same, with ascending keys that are all told apart, are one. -/
theorem asc_uniq : ∀ {l1 l2 : List α}, l1.Perm l2 → Asc key l1 → Asc key l2 → (∀ a, a ∈ l1 → ∀ b, b ∈ l1 → key a = key b → a = b) → (l1.map key).Nodup → l1 = l2 := by
 intro l1
 induction l1 with
 | nil => intro l2 hp _ _ _ _; exact (List.nil_perm.1 hp).symm
 | cons x l1 ih =>
  intro l2 hp h1 h2 hi hn
  cases l2 with
  | nil => simp at hp
  | cons y l2 =>
   have hxy : x = y := by
    have hy : y ∈ x :: l1 := hp.mem_iff.2 (by simp)
    have hx : x ∈ y :: l2 := hp.mem_iff.1 (by simp)
    have a1 : key x ≤ key y := by
     rcases List.mem_cons.1 hy with e | e
     ·rw [e]; exact Int.le_refl _
     ·exact (List.pairwise_cons.1 h1).1 y e
    have a2 : key y ≤ key x := by
     rcases List.mem_cons.1 hx with e | e
     ·rw [e]; exact Int.le_refl _
     ·exact (List.pairwise_cons.1 h2).1 x e
    exact hi x (by simp) y hy (by omega)
   subst hxy
   rw [ih (List.Perm.cons_inv hp) (List.pairwise_cons.1 h1).2 (List.pairwise_cons.1 h2).2 (fun a ha b hb => hi a (by simp [ha]) b (by simp [hb])) (List.nodup_cons.1 (by simpa using hn)).2]
theorem sortK_uniq {l1 l2 : List α} (hp : l1.Perm l2) (hn : (l1.map key).Nodup) : sortK key l1 = sortK key l2 := by
 have hq : (sortK key l1).Perm l1 := sortK_perm l1
 refine asc_uniq (key := key) (hq.trans (hp.trans (sortK_perm l2).symm)) (sortK_asc _) (sortK_asc _) ?_ ?_
 ·intro a ha b hb e
  have ha := hq.mem_iff.1 ha
  have hb := hq.mem_iff.1 hb
  obtain ⟨i, hi, rfl⟩ := List.getElem_of_mem ha
  obtain ⟨j, hj, rfl⟩ := List.getElem_of_mem hb
  have : i = j := by
   rw [List.Nodup, List.pairwise_iff_getElem] at hn
   rcases Nat.lt_trichotomy i j with h | h | h
   ·exact absurd (by rw [List.getElem_map, List.getElem_map]; exact e) (hn i j (by simpa using hi) (by simpa using hj) h)
   ·exact h
   ·exact absurd (by rw [List.getElem_map, List.getElem_map]; exact e.symm) (hn j i (by simpa using hj) (by simpa using hi) h)
  subst this
  rfl
 ·exact (hq.map key).nodup_iff.2 hn
end
end Go.Proofs.YtknhebakebmlcaaGreat
